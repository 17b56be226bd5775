/-
  NatN, NatO, NatR: as one text.
-/
import Derived.Test.YtjlaadadbpffdaaGreatDoorNnJ
import Derived.Test.YtjlaadadbpffdaaGreatDoorZeros
import Derived.Lib.SliceRun
import Derived.Laws.CopyOwn
set_option linter.unusedSimpArgs false
set_option linter.unusedVariables false
namespace Go.Plumb
open Go.RowKit
theorem lenN_unique {n k : Nat} (h1 : n < 2 ^ k) (h2 : k = 0 ∨ 2 ^ (k - 1) ≤ n) : lenN n = k := by
  rcases h2 with rfl | h2
  · have : n = 0 := by simp at h1; omega
    subst this; rfl
  · by_cases h0 : k = 0
    · subst h0
      have : n = 0 := by simp at h1; omega
      subst this; rfl
    · obtain ⟨j, rfl⟩ : ∃ j, k = j + 1 := ⟨k - 1, by omega⟩
      exact lenN_eq h2 h1
/-- How many bits a number of limbs has. -/
theorem lenN_limbs (A : Nat) (h : A ≠ 0) : lenN A = 64 * ((limbs A).length - 1) + lenN ((limbs A).getD ((limbs A).length - 1) 0) := by
  obtain ⟨l, hl⟩ : ∃ l, limbs A = l := ⟨_, rfl⟩
  have hlim := limbs_limbs A
  have hlast := limbs_last A h
  have hv := valL_limbs A
  rw [hl] at hlim hlast hv ⊢
  have hp : 0 < l.length := List.length_pos_iff.2 fun e => h ((limbs_nil_iff A).1 (by rw [hl, e]))
  obtain ⟨n, hn⟩ : ∃ n, l.length = n + 1 := ⟨l.length - 1, by omega⟩
  rw [hn, Nat.add_sub_cancel] at hlast ⊢
  obtain ⟨t, ht⟩ : ∃ t, l.getD n 0 = t := ⟨_, rfl⟩
  rw [ht] at hlast ⊢
  have e := valL_take_succ l n (by omega)
  rw [show n + 1 = l.length by omega, List.take_length, ht, hv] at e
  have h1 := valL_lt (hlim.take n)
  rw [List.length_take, Nat.min_eq_left (by omega)] at h1
  have hB : (18446744073709551616 : Nat) ^ n = 2 ^ (64 * n) := by rw [Nat.pow_mul]
  rw [hB] at e h1
  have hlt := lt_lenN t
  have hge := lenN_ge t hlast
  have hpos : lenN t ≠ 0 := by
    intro e0; rw [e0] at hlt; simp at hlt; exact hlast hlt
  refine lenN_unique ?_ (.inr ?_)
  · rw [Nat.pow_add, e]
    have := Nat.mul_le_mul_left (2 ^ (64 * n)) (show t + 1 ≤ 2 ^ lenN t from hlt)
    rw [Nat.mul_add, Nat.mul_one] at this
    omega
  · rw [show 64 * n + lenN t - 1 = 64 * n + (lenN t - 1) by omega, Nat.pow_add, e]
    have := Nat.mul_le_mul_left (2 ^ (64 * n)) hge
    omega
theorem exists_zeros (A : Nat) (h : A ≠ 0) : ∃ k, A % 2 ^ k = 0 ∧ A / 2 ^ k % 2 = 1 := by
  induction A using Nat.strongRecOn with
  | ind A ih =>
    by_cases h1 : A % 2 = 1
    · exact ⟨0, by simp [Nat.mod_one], by simpa using h1⟩
    · obtain ⟨k, hk1, hk2⟩ := ih (A / 2) (by omega) (by omega)
      refine ⟨k + 1, ?_, ?_⟩
      · rw [Nat.pow_succ, Nat.mul_comm, Nat.mod_mul, hk1]; omega
      · rw [Nat.pow_succ, Nat.mul_comm, ← Nat.div_div_eq_div_mul]; exact hk2
open Classical in
/-- How often 2 divides a number; 0, if it is nought. -/
noncomputable def zerosN (A : Nat) : Nat := if h : A = 0 then 0 else Classical.choose (exists_zeros A h)
theorem zerosN_spec (A : Nat) (h : A ≠ 0) : A % 2 ^ zerosN A = 0 ∧ A / 2 ^ zerosN A % 2 = 1 := by
  unfold zerosN
  rw [dif_neg h]
  exact Classical.choose_spec (exists_zeros A h)
theorem zerosN_zero : zerosN 0 = 0 := by unfold zerosN; rw [dif_pos rfl]
theorem zeros_unique (A j k : Nat) (h1 : A % 2 ^ j = 0) (h2 : A / 2 ^ j % 2 = 1) (h3 : A % 2 ^ k = 0) (h4 : A / 2 ^ k % 2 = 1) : j = k := by
  have key : ∀ a b, A % 2 ^ b = 0 → A / 2 ^ a % 2 = 1 → ¬ a < b := by
    intro a b hb ha hlt
    obtain ⟨c, rfl⟩ : ∃ c, b = a + (c + 1) := ⟨b - a - 1, by omega⟩
    obtain ⟨q, hq⟩ := Nat.dvd_of_mod_eq_zero hb
    rw [hq, Nat.pow_add, Nat.mul_assoc, Nat.mul_div_cancel_left _ (Nat.two_pow_pos a), Nat.pow_succ, Nat.mul_comm (2 ^ c) 2, Nat.mul_assoc, Nat.mul_mod_right] at ha
    omega
  have a := key j k h3 h2
  have b := key k j h1 h4
  omega
theorem zerosN_eq (A k : Nat) (h3 : A % 2 ^ k = 0) (h4 : A / 2 ^ k % 2 = 1) : zerosN A = k := by
  have h : A ≠ 0 := by rintro rfl; simp at h4
  obtain ⟨a, b⟩ := zerosN_spec A h
  exact zeros_unique A _ _ a b h3 h4
/-- The number of noughts at the lower end, limb by limb. -/
theorem zerosN_limbs (l : List Nat) (n z : Nat) (hl : Limbs l) (hn : n < l.length) (hz : ∀ j, j < n → l.getD j 0 = 0) (h1 : l.getD n 0 % 2 ^ z = 0) (h2 : l.getD n 0 / 2 ^ z % 2 = 1) : zerosN (valL l) = 64 * n + z := by
  obtain ⟨x, hx⟩ : ∃ x, l.getD n 0 = x := ⟨_, rfl⟩
  rw [hx] at h1 h2
  have hxl := hl.get n
  rw [hx] at hxl
  have hz64 : z < 64 := by
    apply Nat.lt_of_not_le
    intro hle
    have hp := Nat.pow_le_pow_right (show 0 < 2 by decide) hle
    rw [Nat.div_eq_of_lt (by have e : (2:Nat) ^ 64 = 18446744073709551616 := by decide
                             omega)] at h2
    omega
  have hv : valL l = 18446744073709551616 ^ n * (x + 18446744073709551616 * valL (l.drop (n + 1))) := by
    have e := valL_split l n (by omega)
    have h0 : valL (l.take n) = 0 := by
      clear e h1 h2 hx hxl
      induction n with
      | zero => simp [valL]
      | succ n ih => rw [valL_take_any, ih (by omega) (fun j hj => hz j (by omega)), hz n (by omega)]; simp
    rw [h0, Nat.zero_add, valL_drop l n hn, hx] at e
    exact e
  have hB : (18446744073709551616 : Nat) ^ n = 2 ^ (64 * n) := by rw [Nat.pow_mul]
  have hs := pow_split z hz64
  have e2 : x + 18446744073709551616 * valL (l.drop (n + 1)) = 2 ^ z * (x / 2 ^ z + 2 ^ (64 - z) * valL (l.drop (n + 1))) := by
    rw [Nat.mul_add, ← Nat.mul_assoc, hs]
    have := Nat.div_add_mod x (2 ^ z)
    omega
  have e3 : valL l = 2 ^ (64 * n + z) * (x / 2 ^ z + 2 ^ (64 - z) * valL (l.drop (n + 1))) := by
    rw [hv, hB, e2, Nat.pow_add, Nat.mul_assoc]
  refine zerosN_eq _ _ ?_ ?_
  · rw [e3, Nat.mul_mod_right]
  · rw [e3, Nat.mul_div_cancel_left _ (Nat.two_pow_pos _)]
    obtain ⟨m, hm⟩ : ∃ m, 64 - z = m + 1 := ⟨63 - z, by omega⟩
    rw [hm, Nat.pow_succ, Nat.mul_comm (2 ^ m) 2, Nat.mul_assoc]
    omega
/-- A bit of a number of limbs. -/
theorem testBit_valL (l : List Nat) (hl : Limbs l) (i : Nat) : (valL l).testBit i = (l.getD (i / 64) 0).testBit (i % 64) := by
  have hr : i % 64 < 64 := Nat.mod_lt _ (by decide)
  by_cases h : i / 64 < l.length
  · have e := valL_split l (i / 64) (by omega)
    rw [valL_drop l _ h] at e
    have h1 := valL_lt (hl.take (i / 64))
    rw [List.length_take, Nat.min_eq_left (by omega)] at h1
    have hB : (18446744073709551616 : Nat) ^ (i / 64) = 2 ^ (64 * (i / 64)) := by rw [Nat.pow_mul]
    rw [hB] at e h1
    have hq : valL l / 2 ^ i % 2 = l.getD (i / 64) 0 / 2 ^ (i % 64) % 2 := by
      have hi : (2 : Nat) ^ i = 2 ^ (64 * (i / 64)) * 2 ^ (i % 64) := by rw [← Nat.pow_add, Nat.div_add_mod]
      rw [hi, ← Nat.div_div_eq_div_mul, e, Nat.add_comm, Nat.mul_add_div (Nat.two_pow_pos _), Nat.div_eq_of_lt h1, Nat.add_zero, shr_low _ _ _ hr]
      obtain ⟨m, hm⟩ : ∃ m, 64 - i % 64 = m + 1 := ⟨63 - i % 64, by omega⟩
      rw [hm, Nat.pow_succ, ← Nat.mul_assoc]
      omega
    rw [Nat.testBit_eq_decide_div_mod_eq, Nat.testBit_eq_decide_div_mod_eq, hq]
  · have h0 : l.getD (i / 64) 0 = 0 := by simp [List.getD, List.getElem?_eq_none (Nat.le_of_not_lt h)]
    rw [h0, Nat.zero_testBit]
    apply Nat.testBit_lt_two_pow
    have h1 := valL_lt hl
    have h2 := Nat.pow_le_pow_right (show 0 < 18446744073709551616 by decide) (show l.length ≤ i / 64 by omega)
    have hB : (18446744073709551616 : Nat) ^ (i / 64) = 2 ^ (64 * (i / 64)) := by rw [Nat.pow_mul]
    have h3 := Nat.pow_le_pow_right (show 0 < 2 by decide) (show 64 * (i / 64) ≤ i by omega)
    rw [hB] at h2
    omega
def bitB (A : Nat) (i : Int) : Bool := decide (0 ≤ i) && A.testBit i.toNat
end Go.Plumb
namespace Go.Proofs.YtjlaadadbpffdaaGreatDoor
open Go.RowKit Go.Plumb

theorem ret2_int {k : IntKind} {a b : Int} {x : Value} (h : a = b) : Ending.returned (.tuple #[.int k a, x]) = .returned (.tuple #[.int k b, x]) := by rw [h]
theorem Bits_nil (a : Option Addr) (c : Nat) (l : List Nat) (w : World) (hA : Arr w a c l) (h0 : valL l = 0) :
    Calls Tryz.prog 77 #[.slice a l.length c] w fun e w' => e = .returned (.tuple #[.int .i64 0, .int .i64 0]) ∧ Below w.heap.size w w' := by
  have hO := open1_in a c l w hA (by rw [h0, limbs_zero]; simp)
  rw [h0, limbs_zero, List.length_nil] at hO
  obtain ⟨w2, hw2⟩ : ∃ w2, ((w.alloc (.cells #[.slice a 0 c] 22)).alloc (.cells #[.pointer (some ⟨w.heap.size, 0, none⟩)] 135)) = w2 := ⟨_, rfl⟩
  have hB2 : Below w.heap.size w w2 := by rw [← hw2]; (repeat' (first | exact Below.refl _ _ | assumption | (refine below_alloc ?_ _) | (refine Below.setCell ?_ ?_ _) | (refine Below.drew ?_) | (refine below_drewN ?_ _))) <;> (first | (simp; done) | (simp; omega) | omega)
  have c1 : w2.cell? ⟨w.heap.size, 0, none⟩ = some (.slice a 0 c) := by rw [← hw2]; simp [go_sem]
  rw [hw2] at hO
  have HB2 := Lib.hid hB2
  clear hw2 hA hB2 h0
  go_enter Tryz.func77, Tryz.ntmps77
  go_wp2_with fail
  refine hO.mono ?_
  rintro e w' ⟨rfl, rfl⟩
  go_wp2_with fail
  go_ret2
  exact ⟨rfl, HB2.out⟩
set_option maxHeartbeats 1000000 in
theorem Bits_pos (a : Option Addr) (c : Nat) (l : List Nat) (w : World) (hA : Arr w a c l) (hl : (limbs (valL l)).length ≤ 4096) (h0 : valL l ≠ 0) :
    Calls Tryz.prog 77 #[.slice a l.length c] w fun e w' => e = .returned (.tuple #[.int .i64 (lenN (valL l) : Int), .int .i64 0]) ∧ Below w.heap.size w w' := by
  have hO := open1_in a c l w hA hl
  obtain ⟨w2, hw2⟩ : ∃ w2, ((w.alloc (.cells #[.slice a (limbs (valL l)).length c] 22)).alloc (.cells #[.pointer (some ⟨w.heap.size, 0, none⟩)] 135)) = w2 := ⟨_, rfl⟩
  have hB2 : Below w.heap.size w w2 := by rw [← hw2]; (repeat' (first | exact Below.refl _ _ | assumption | (refine below_alloc ?_ _) | (refine Below.setCell ?_ ?_ _) | (refine Below.drew ?_) | (refine below_drewN ?_ _))) <;> (first | (simp; done) | (simp; omega) | omega)
  rw [hw2] at hO
  have hAn := hA.norm.below hB2
  have hL := lenN_limbs _ h0
  obtain ⟨L, hLL⟩ : ∃ L, lenN (valL l) = L := ⟨_, rfl⟩
  rw [hLL] at hL ⊢
  obtain ⟨la, hla⟩ : ∃ la, limbs (valL l) = la := ⟨_, rfl⟩
  have hp : 0 < la.length := List.length_pos_iff.2 fun e => h0 ((limbs_nil_iff _).1 (by rw [hla, e]))
  rw [hla] at hl hAn hL
  obtain ⟨n, hn⟩ : ∃ n, la.length = n := ⟨_, rfl⟩
  have c1 : w2.cell? ⟨w.heap.size, 0, none⟩ = some (.slice a n c) := by rw [← hw2, hla, hn]; simp [go_sem]
  obtain ⟨b, off, rfl, hf⟩ := hAn.at (List.length_pos_iff.1 hp)
  have hc := hf (n - 1) (by omega)
  rw [hn] at hl hp hL
  obtain ⟨t, ht⟩ : ∃ t, la.getD (n - 1) 0 = t := ⟨_, rfl⟩
  have htl : t < 18446744073709551616 := by rw [← ht]; exact hAn.2.2.1.get _
  rw [ht] at hc hL
  have hlz := fun w' => lz64_any (t : Int) w' (by omega) (by omega)
  have elen : lenI (t : Int) = (lenN t : Int) := by unfold lenI; simp
  rw [elen] at hlz
  obtain ⟨q, hq⟩ : ∃ q, lenN t = q := ⟨_, rfl⟩
  have hq64 : q ≤ 64 := by rw [← hq]; exact lenN_le t 64 (by simpa using htl)
  rw [hq] at hlz hL
  have HL := Lib.hid hL
  have HB2 := Lib.hid hB2
  have z1 : (0 : Int) ≤ (n : Int) - 1 := by omega
  have z2 : (n : Int) - 1 < (n : Int) := by omega
  have z3 : ((n : Int) - 1).toNat = n - 1 := by omega
  have z4 : ((n : Int) == 0) = false := by simp; omega
  clear hw2 hA hB2 h0 hAn hf hLL hla hn ht elen hq hL
  go_enter Tryz.func77, Tryz.ntmps77
  go_wp2_with fail
  refine hO.mono ?_
  rintro e w' ⟨rfl, rfl⟩
  clear hO
  go_wp2_with fail
  go_quiet ((go_at_call 135; exact quiet_eq (hlz _)))
  go_wp2_with fail
  go_ret2
  have := HL.out
  exact ⟨ret2_int (k := .i64) (show 64 * (n : Int) - (64 - (q : Int)) = (L : Int) by omega), below_drewN HB2.out _⟩
/-- nat.Bits at every number that may be. -/
theorem Bits_any (a : Option Addr) (c : Nat) (l : List Nat) (w : World) (hA : Arr w a c l) (hl : (limbs (valL l)).length ≤ 4096) :
    Calls Tryz.prog 77 #[.slice a l.length c] w fun e w' => e = .returned (.tuple #[.int .i64 (lenN (valL l) : Int), .int .i64 0]) ∧ Below w.heap.size w w' := by
  by_cases h0 : valL l = 0
  · have := Bits_nil a c l w hA h0
    rw [h0]
    exact this
  · exact Bits_pos a c l w hA hl h0

theorem Zeros_nil (a : Option Addr) (c : Nat) (l : List Nat) (w : World) (hA : Arr w a c l) (h0 : valL l = 0) :
    Calls Tryz.prog 151 #[.slice a l.length c] w fun e w' => e = .returned (.tuple #[.int .i64 0, .int .i64 0]) ∧ Below w.heap.size w w' := by
  have hO := open1_in a c l w hA (by rw [h0, limbs_zero]; simp)
  rw [h0, limbs_zero, List.length_nil] at hO
  obtain ⟨w2, hw2⟩ : ∃ w2, ((w.alloc (.cells #[.slice a 0 c] 22)).alloc (.cells #[.pointer (some ⟨w.heap.size, 0, none⟩)] 135)) = w2 := ⟨_, rfl⟩
  have hB2 : Below w.heap.size w w2 := by rw [← hw2]; (repeat' (first | exact Below.refl _ _ | assumption | (refine below_alloc ?_ _) | (refine Below.setCell ?_ ?_ _) | (refine Below.drew ?_) | (refine below_drewN ?_ _))) <;> (first | (simp; done) | (simp; omega) | omega)
  have c1 : w2.cell? ⟨w.heap.size, 0, none⟩ = some (.slice a 0 c) := by rw [← hw2]; simp [go_sem]
  rw [hw2] at hO
  have HB2 := Lib.hid hB2
  clear hw2 hA hB2 h0
  go_enter Tryz.func151, Tryz.ntmps151
  go_wp2_with fail
  refine hO.mono ?_
  rintro e w' ⟨rfl, rfl⟩
  go_wp2_with fail
  go_ret2
  exact ⟨rfl, HB2.out⟩
theorem first_limb (l : List Nat) (h : valL l ≠ 0) : ∃ m, m < l.length ∧ (∀ j, j < m → l.getD j 0 = 0) ∧ l.getD m 0 ≠ 0 := by
  induction l with
  | nil => exact absurd rfl h
  | cons x l ih =>
    by_cases hx : x = 0
    · obtain ⟨m, h1, h2, h3⟩ := ih (by intro e; apply h; simp [valL, hx, e])
      refine ⟨m + 1, by simp; omega, fun j hj => ?_, by simpa using h3⟩
      cases j with
      | zero => simpa using hx
      | succ j => simpa using h2 j (by omega)
    · exact ⟨0, by simp, fun j hj => by omega, by simpa using hx⟩
theorem ctz_spec (x : Nat) (hx : x < 18446744073709551616) (h0 : x ≠ 0) : x % 2 ^ Lib.ctz 64 x = 0 ∧ x / 2 ^ Lib.ctz 64 x % 2 = 1 := by
  obtain ⟨m, hm, hk⟩ := Lib.ctzFrom_spec 64 x (by omega) (by simpa using hx)
  have e : Lib.ctz 64 x = Lib.ctzFrom 64 x := by simp [Lib.ctz, h0]
  rw [e]
  generalize Lib.ctzFrom 64 x = k at *
  subst hm
  rw [Nat.mul_mod_right, Nat.mul_div_cancel_left _ (Nat.two_pow_pos k)]
  omega
set_option maxHeartbeats 2000000 in
theorem Zeros_pos (a : Option Addr) (c : Nat) (l : List Nat) (w : World) (hA : Arr w a c l) (hl : (limbs (valL l)).length ≤ 4096) (h0 : valL l ≠ 0) (hT : Tab w) :
    Calls Tryz.prog 151 #[.slice a l.length c] w fun e w' => e = .returned (.tuple #[.int .i64 (zerosN (valL l) : Int), .int .i64 0]) ∧ Below w.heap.size w w' := by
  have hO := open1_in a c l w hA hl
  obtain ⟨w2, hw2⟩ : ∃ w2, ((w.alloc (.cells #[.slice a (limbs (valL l)).length c] 22)).alloc (.cells #[.pointer (some ⟨w.heap.size, 0, none⟩)] 135)) = w2 := ⟨_, rfl⟩
  have hB2 : Below w.heap.size w w2 := by rw [← hw2]; (repeat' (first | exact Below.refl _ _ | assumption | (refine below_alloc ?_ _) | (refine Below.setCell ?_ ?_ _) | (refine Below.drew ?_) | (refine below_drewN ?_ _))) <;> (first | (simp; done) | (simp; omega) | omega)
  rw [hw2] at hO
  have hAn := hA.norm.below hB2
  obtain ⟨la, hla⟩ : ∃ la, limbs (valL l) = la := ⟨_, rfl⟩
  have hv : valL l = valL la := by rw [← hla, valL_limbs]
  have hp : 0 < la.length := List.length_pos_iff.2 fun e => h0 ((limbs_nil_iff _).1 (by rw [hla, e]))
  rw [hla] at hl hAn
  rw [hv] at h0 ⊢
  obtain ⟨m, hm, hm1, hm2⟩ := first_limb la h0
  obtain ⟨t, ht⟩ : ∃ t, la.getD m 0 = t := ⟨_, rfl⟩
  have htl : t < 18446744073709551616 := by rw [← ht]; exact hAn.2.2.1.get _
  rw [ht] at hm2
  obtain ⟨z1, z2⟩ := ctz_spec t htl hm2
  have hL := zerosN_limbs la m (Lib.ctz 64 t) hAn.2.2.1 hm hm1 (by rw [ht]; exact z1) (by rw [ht]; exact z2)
  obtain ⟨q, hq⟩ : ∃ q, Lib.ctz 64 t = q := ⟨_, rfl⟩
  have htz : ∀ w', Tab w' → Calls Tryz.prog 169 #[.int .u64 (t : Int)] w' fun e w'' => e = .returned (.int .i64 (q : Int)) ∧ w' = w'' := fun w' h => by
    have := tz64_any (t : Int) w' (by omega) (by omega) h
    rw [Int.toNat_natCast, hq] at this
    exact this
  rw [hq] at hL
  have hq64 : q < 64 := by
    apply Nat.lt_of_not_le
    intro hle
    have hpw := Nat.pow_le_pow_right (show 0 < 2 by decide) hle
    rw [hq, Nat.div_eq_of_lt (by have e : (2:Nat) ^ 64 = 18446744073709551616 := by decide
                                 omega)] at z2
    omega
  obtain ⟨n, hn⟩ : ∃ n, la.length = n := ⟨_, rfl⟩
  have c1 : w2.cell? ⟨w.heap.size, 0, none⟩ = some (.slice a n c) := by rw [← hw2, hla, hn]; simp [go_sem]
  obtain ⟨b, off, rfl, hf⟩ := hAn.at (List.length_pos_iff.1 hp)
  have HF := Lib.hid hf
  have HM := Lib.hid hm1
  have Ht := Lib.hid ht
  rw [hn] at hl hp hm
  have HL := Lib.hid hL
  have HB2 := Lib.hid hB2
  have HT2 := Lib.hid (hT.below hB2)
  have Hn := Lib.hid hn
  have z4 : ((n : Int) == 0) = false := by simp; omega
  clear hw2 hA hB2 h0 hAn hf hla hn ht hq hL hT hv z1 z2 hm1
  go_enter Tryz.func151, Tryz.ntmps151
  go_wp2_with fail
  refine hO.mono ?_
  rintro e w' ⟨rfl, rfl⟩
  clear hO
  go_wp2_with fail
  go_loopw [5] (fun v wr => ∃ j : Nat, j ≤ m ∧ v = .int .i64 (j : Int) ∧ Hid (Below w2.heap.size w2 wr)) (fun v _ => m - (intOf v).toNat)
  case atStart => exact ⟨0, Nat.zero_le _, rfl, Lib.hid (Below.refl _ _)⟩
  case round =>
    obtain ⟨j, hj, rfl, hBr⟩ := hrel
    have c1' := (hBr.out.cell (p := ⟨w.heap.size, 0, none⟩) (cell_lt c1)).trans c1
    have hc := (hBr.out.cell (p := ⟨b, off + j, none⟩) (cell_lt (HF.out j (by have := Hn.out; omega)))).trans (HF.out j (by have := Hn.out; omega))
    have z5 : (0 : Int) ≤ (j : Int) := by omega
    have z6 : (j : Int) < (n : Int) := by omega
    by_cases hlt : j < m
    · rw [HM.out j hlt] at hc
      go_wp2_with fail
      go_roundw
      case rel => exact ⟨j + 1, by omega, by go_num, hBr⟩
      case measure => simp [intOf]; omega
    · obtain rfl : m = j := by omega
      rw [Ht.out] at hc
      have z7 : ((t : Int) == 0) = false := by simp; omega
      have hT3 := HT2.out.below hBr.out
      have HT3 := Lib.hid hT3
      clear hT3
      go_wp2_with fail
      refine (htz wr HT3.out).mono ?_
      rintro e w' ⟨rfl, rfl⟩
      go_wp2_with fail
      go_ret2
      have := HL.out
      exact ⟨ret2_int (k := .i64) (show 64 * (m : Int) + (q : Int) = (zerosN (valL la) : Int) by omega), below_step HB2.out hBr.out⟩
/-- nat.Zeros at every number that may be. -/
theorem Zeros_any (a : Option Addr) (c : Nat) (l : List Nat) (w : World) (hA : Arr w a c l) (hl : (limbs (valL l)).length ≤ 4096) (hT : Tab w) :
    Calls Tryz.prog 151 #[.slice a l.length c] w fun e w' => e = .returned (.tuple #[.int .i64 (zerosN (valL l) : Int), .int .i64 0]) ∧ Below w.heap.size w w' := by
  by_cases h0 : valL l = 0
  · have := Zeros_nil a c l w hA h0
    rw [h0, zerosN_zero]
    exact this
  · exact Zeros_pos a c l w hA hl h0 hT

theorem ret_bool {a b : Bool} (h : a = b) : Ending.returned (.bool a) = .returned (.bool b) := by rw [h]
theorem bit_and (x k : Nat) (hx : x < 18446744073709551616) : (bits .and .u64 ((x : Int) / 2 ^ k) 1 == 1) = x.testBit k := by
  have e : (x : Int) / 2 ^ k = ((x / 2 ^ k : Nat) : Int) := by simp
  have h : x / 2 ^ k ≤ x := Nat.div_le_self _ _
  rw [e, Nat.testBit_eq_decide_div_mod_eq]
  generalize x / 2 ^ k = y at *
  rw [and_1 (by omega) (by omega)]
  by_cases h1 : y % 2 = 1
  · rw [h1]; simp; omega
  · simp [h1]; omega
end Go.Proofs.YtjlaadadbpffdaaGreatDoor

namespace Go.Plumb
/-- The half digit of Knuth's division: a guess that is not too small, and its rest. -/
structure Half (y1 y0 u2 u1 q r : Nat) : Prop where
  val : q * y1 + r = u2
  ge : (u2 * 4294967296 + u1) / (y1 * 4294967296 + y0) ≤ q
  le : q ≤ 4294967297
theorem half_key (y1 y0 u2 u1 q r : Nat) (h : q * y1 + r = u2) : q * (y1 * 4294967296 + y0) + r * 4294967296 = u2 * 4294967296 + q * y0 := by
  subst h
  rw [Nat.mul_add, Nat.add_mul, Nat.mul_assoc]
  omega
theorem half_down (y1 y0 u2 u1 q r : Nat) (h : Half y1 y0 u2 u1 q r) (hy : 0 < y1) (hu : u2 < y1 * 4294967296 + y0) (hu1 : u1 < 4294967296) (hc : 4294967296 ≤ q ∨ 4294967296 * r + u1 < q * y0) :
    1 ≤ q ∧ Half y1 y0 u2 u1 (q - 1) (r + y1) ∧ q - 1 ≤ 4294967296 := by
  obtain ⟨hv, hge, hle⟩ := h
  have hY : 0 < y1 * 4294967296 + y0 := by omega
  have hQ : (u2 * 4294967296 + u1) / (y1 * 4294967296 + y0) < q := by
    rw [Nat.div_lt_iff_lt_mul hY]
    rcases hc with hc | hc
    · have h1 := Nat.mul_le_mul_right (y1 * 4294967296 + y0) hc
      clear hge
      omega
    · have := half_key y1 y0 u2 u1 q r hv
      clear hge
      omega
  have h1 : 1 ≤ q := Nat.lt_of_le_of_lt (Nat.zero_le _) hQ
  refine ⟨h1, ⟨?_, Nat.le_sub_one_of_lt hQ, by omega⟩, by omega⟩
  clear hQ hge
  obtain ⟨p, rfl⟩ : ∃ p, q = p + 1 := ⟨q - 1, by omega⟩
  rw [Nat.add_sub_cancel, ← hv, Nat.add_mul]
  omega
theorem half_stop (y1 y0 u2 u1 q r : Nat) (h : Half y1 y0 u2 u1 q r) (hy : 0 < y1) (hc : q * y0 ≤ 4294967296 * r + u1) : q = (u2 * 4294967296 + u1) / (y1 * 4294967296 + y0) := by
  obtain ⟨hv, hge, hle⟩ := h
  have hY : 0 < y1 * 4294967296 + y0 := by omega
  have : q ≤ (u2 * 4294967296 + u1) / (y1 * 4294967296 + y0) := by
    rw [Nat.le_div_iff_mul_le hY]
    have := half_key y1 y0 u2 u1 q r hv
    clear hge
    omega
  exact Nat.le_antisymm this hge
theorem half_break (y1 y0 u2 u1 q r : Nat) (h : Half y1 y0 u2 u1 q r) (hy : 0 < y1) (hy0 : y0 < 4294967296) (hq : q ≤ 4294967296) (hr : 4294967296 ≤ r) : q = (u2 * 4294967296 + u1) / (y1 * 4294967296 + y0) := by
  refine half_stop y1 y0 u2 u1 q r h hy ?_
  have h1 := Nat.mul_le_mul hq (show y0 ≤ 4294967295 by omega)
  generalize q * y0 = P at *
  omega
theorem half_start (y1 y0 u2 u1 : Nat) (hy : 2147483648 ≤ y1) (hy0 : y0 < 4294967296) (hu : u2 < y1 * 4294967296 + y0) (hu1 : u1 < 4294967296) : Half y1 y0 u2 u1 (u2 / y1) (u2 % y1) := by
  refine ⟨by rw [Nat.mul_comm]; exact Nat.div_add_mod u2 y1, ?_, ?_⟩
  · rw [Nat.le_div_iff_mul_le (by omega)]
    have h1 := Nat.div_mul_le_self (u2 * 4294967296 + u1) (y1 * 4294967296 + y0)
    generalize (u2 * 4294967296 + u1) / (y1 * 4294967296 + y0) = q at *
    rw [Nat.mul_add, ← Nat.mul_assoc] at h1
    generalize q * y1 = p at *
    omega
  · have : u2 / y1 < 4294967298 := by
      rw [Nat.div_lt_iff_lt_mul (by omega)]
      omega
    omega
/-- Two half digits make the digit. -/
theorem halves_make (hi lo y u1 u0 q1 q0 r1 : Nat) (hlo : lo = u1 * 4294967296 + u0) (hu0 : u0 < 4294967296) (h1 : q1 = (hi * 4294967296 + u1) / y) (hr : r1 = (hi * 4294967296 + u1) % y) (h0 : q0 = (r1 * 4294967296 + u0) / y) :
    q1 * 4294967296 + q0 = (hi * 18446744073709551616 + lo) / y ∧ (r1 * 4294967296 + u0) % y = (hi * 18446744073709551616 + lo) % y := by
  by_cases hy : y = 0
  · subst hy
    simp only [Nat.div_zero, Nat.mod_zero] at *
    subst h1 hr h0 hlo
    omega
  · have e1 := Nat.div_add_mod (hi * 4294967296 + u1) y
    have e0 := Nat.div_add_mod (r1 * 4294967296 + u0) y
    have hlt := Nat.mod_lt (r1 * 4294967296 + u0) (Nat.pos_of_ne_zero hy)
    rw [← h1, ← hr] at e1
    rw [← h0] at e0
    have key := quot_unique (hi * 18446744073709551616 + lo) y (q1 * 4294967296 + q0) ((r1 * 4294967296 + u0) % y) (by
      rw [Nat.mul_comm _ y, Nat.mul_add, ← Nat.mul_assoc]
      omega) hlt
    exact ⟨key.1, key.2⟩
theorem div64_mid (hi u1 y p r1 : Nat) (hp : p = (hi * 4294967296 + u1) / y) (hr : (hi * 4294967296 + u1) % y = r1) (hr1 : r1 < 18446744073709551616) :
    IntKind.u64.wrap (IntKind.u64.wrap (IntKind.u64.wrap ((hi : Int) * 4294967296) + (u1 : Int)) - IntKind.u64.wrap ((p : Int) * (y : Int))) = (r1 : Int) := by
  have e := Nat.div_add_mod (hi * 4294967296 + u1) y
  rw [← hp, hr, Nat.mul_comm] at e
  have ep : (p : Int) * (y : Int) = ((p * y : Nat) : Int) := by simp
  rw [ep]
  generalize p * y = P at *
  simp only [IntKind.wrap_u64]
  omega
theorem div64_end (hi lo y u1 u0 p q2 r1 : Nat) (hlo : lo = u1 * 4294967296 + u0) (hu0 : u0 < 4294967296) (hp : p = (hi * 4294967296 + u1) / y) (hr : r1 = (hi * 4294967296 + u1) % y) (hq : q2 = (r1 * 4294967296 + u0) / y) (hyl : y < 18446744073709551616) (hlt : hi < y) (hll : lo < 18446744073709551616) :
    IntKind.u64.wrap (IntKind.u64.wrap ((p : Int) * 4294967296) + (q2 : Int)) = (((hi * 18446744073709551616 + lo) / y : Nat) : Int) ∧
      IntKind.u64.wrap (IntKind.u64.wrap (IntKind.u64.wrap ((r1 : Int) * 4294967296) + (u0 : Int)) - IntKind.u64.wrap ((q2 : Int) * (y : Int))) = (((hi * 18446744073709551616 + lo) % y : Nat) : Int) := by
  obtain ⟨k1, k2⟩ := halves_make hi lo y u1 u0 p q2 r1 hlo hu0 hp hr hq
  have hm : (hi * 18446744073709551616 + lo) % y < y := Nat.mod_lt _ (by omega)
  have hd : (hi * 18446744073709551616 + lo) / y < 18446744073709551616 := by
    rw [Nat.div_lt_iff_lt_mul (by omega)]
    have := Nat.mul_le_mul_left 18446744073709551616 (show hi + 1 ≤ y from hlt)
    rw [Nat.mul_add] at this
    omega
  have e2 := div64_mid r1 u0 y q2 ((r1 * 4294967296 + u0) % y) hq rfl (Nat.lt_trans (Nat.mod_lt _ (by omega)) hyl)
  rw [k2] at e2
  refine ⟨?_, e2⟩
  rw [← k1] at hd ⊢
  simp only [IntKind.wrap_u64]
  omega
end Go.Plumb
namespace Go.Proofs.YtjlaadadbpffdaaGreatDoor
open Go.RowKit Go.Plumb

theorem ret_tup2 {k k' : IntKind} {a b c d : Int} (h1 : a = b) (h2 : c = d) : Ending.returned (.tuple #[.int k a, .int k' c]) = .returned (.tuple #[.int k b, .int k' d]) := by rw [h1, h2]
theorem div64_zero (lo y : Nat) (w : World) (hl : lo < 18446744073709551616) (hy : y < 18446744073709551616) (hy0 : 0 < y) :
    Calls Tryz.prog 165 #[.int .u64 0, .int .u64 (lo : Int), .int .u64 (y : Int)] w fun e w' => e = .returned (.tuple #[.int .u64 ((lo / y : Nat) : Int), .int .u64 ((lo % y : Nat) : Int)]) ∧ Below w.heap.size w w' := by
  have z1 : ((y : Int) == 0) = false := by simp; omega
  go_enter Tryz.func165, Tryz.ntmps165
  go_wp2_with fail
  have hw1 : IntKind.u64.wrap ((lo : Int) / (y : Int)) = ((lo / y : Nat) : Int) := by
    have e : (lo : Int) / (y : Int) = ((lo / y : Nat) : Int) := by simp
    have h : lo / y ≤ lo := Nat.div_le_self _ _
    rw [e, IntKind.wrap_u64]
    generalize lo / y = q at *
    omega
  have hw2 : (lo : Int) % (y : Int) = ((lo % y : Nat) : Int) := by simp
  go_quiet (fail)
  go_wp2_with fail
  go_ret2
  exact ⟨ret_tup2 (by simp) hw2, below_drewN (Below.refl _ _) _⟩
set_option maxHeartbeats 2000000 in
theorem div64_core (hi lo y y1 y0 : Nat) (w : World) (hhi : 0 < hi) (hlt : hi < y) (hl : lo < 18446744073709551616) (hy : 9223372036854775808 ≤ y) (hyl : y < 18446744073709551616) (e1 : y / 4294967296 = y1) (e0 : y % 4294967296 = y0) :
    Calls Tryz.prog 165 #[.int .u64 (hi : Int), .int .u64 (lo : Int), .int .u64 (y : Int)] w fun e w' => e = .returned (.tuple #[.int .u64 (((hi * 18446744073709551616 + lo) / y : Nat) : Int), .int .u64 (((hi * 18446744073709551616 + lo) % y : Nat) : Int)]) ∧ Below w.heap.size w w' := by
  have z1 : ((y : Int) == 0) = false := by simp; omega
  have z2 : ((hi : Int) == 0) = false := by simp; omega
  have hlen : lenI (y : Int) = 64 := by
    unfold lenI
    rw [Int.toNat_natCast, lenN_eq (k := 63) (by simpa using hy) (by simpa using hyl)]; rfl
  have hlz : ∀ w', Calls Tryz.prog 135 #[.int .u64 (y : Int)] w' fun e w'' => e = .returned (.int .i64 0) ∧ w' = w'' := fun w' => by
    have := lz64_any (y : Int) w' (by omega) (by omega)
    rw [hlen] at this
    exact this
  have m1 : bits .and .u64 (y : Int) 4294967295 = (y0 : Int) := by
    rw [show (4294967295 : Int) = 2 ^ 32 - 1 by decide, and_mask 32 (by decide) (by omega) (by omega)]
    omega
  obtain ⟨u1, hu1⟩ : ∃ u1, lo / 4294967296 = u1 := ⟨_, rfl⟩
  obtain ⟨u0, hu0⟩ : ∃ u0, lo % 4294967296 = u0 := ⟨_, rfl⟩
  have m2 : bits .and .u64 (lo : Int) 4294967295 = (u0 : Int) := by
    rw [show (4294967295 : Int) = 2 ^ 32 - 1 by decide, and_mask 32 (by decide) (by omega) (by omega)]
    omega
  have d1 : (y : Int) / 4294967296 = (y1 : Int) := by omega
  have d2 : (lo : Int) / 4294967296 = (u1 : Int) := by omega
  have m3 : bits .or .u64 (hi : Int) ((lo : Int) / 18446744073709551616) = (hi : Int) := by
    have e : (lo : Int) / 18446744073709551616 = 0 := by omega
    rw [e]
    have := or_join 0 (x := (hi : Int)) (y := 0) (by omega) (by simp [Int.emod_one]) (by omega) (Int.le_refl _) (by decide) (by decide)
    rw [this]; simp
  have HS := Lib.hid (half_start y1 y0 hi u1 (by omega) (by omega) (by omega) (by omega))
  obtain ⟨Q, hQ⟩ : ∃ Q, hi / y1 = Q := ⟨_, rfl⟩
  obtain ⟨R, hR⟩ : ∃ R, hi % y1 = R := ⟨_, rfl⟩
  have hRb : R < y1 := by rw [← hR]; exact Nat.mod_lt _ (by omega)
  rw [hQ, hR] at HS
  have d3 : (hi : Int) / (y1 : Int) = (Q : Int) := by rw [← hQ]; simp
  have hQb := HS.out.le
  have hQv := HS.out.val
  obtain ⟨T, hT⟩ : ∃ T, Q * y1 = T := ⟨_, rfl⟩
  rw [hT] at hQv
  have d4 : IntKind.u64.wrap ((Q : Int) * (y1 : Int)) = (T : Int) := by rw [IntKind.wrap_u64, ← hT]; simp; omega
  have y1b : 2147483648 ≤ y1 ∧ y1 < 4294967296 := by omega
  obtain ⟨y1a, y1c⟩ := y1b
  have y0c : y0 < 4294967296 := by omega
  have u1c : u1 < 4294967296 := by omega
  have u0c : u0 < 4294967296 := by omega
  have E0 := Lib.hid (show y = y1 * 4294967296 + y0 by omega)
  have E1 := Lib.hid (show lo = u1 * 4294967296 + u0 by omega)
  clear hQ hR hT hu1 hu0 e1 e0
  go_enter Tryz.func165, Tryz.ntmps165
  go_wp2_with (go_at_call 135; (with_reducible refine (hlz _).mono ?_); rintro e w' ⟨rfl, rfl⟩)
  go_loopw [15, 16] (fun u v wr => ∃ q r : Nat, u = .int .u64 (q : Int) ∧ v = .int .u64 (r : Int) ∧ q ≤ 4294967297 ∧ r < 4294967296 ∧ Hid (Half y1 y0 hi u1 q r) ∧ w = wr) (fun u _ _ => (intOf u).toNat)
  case atStart => exact ⟨Q, R, rfl, by go_num, by omega, by omega, HS, rfl⟩
  case round =>
    obtain ⟨q, r, rfl, rfl, hq, hr, hH, rfl⟩ := hrel
    have hPb := Nat.mul_le_mul hq (show y0 ≤ 4294967295 by omega)
    obtain ⟨P, hP⟩ : ∃ P, q * y0 = P := ⟨_, rfl⟩
    rw [hP] at hPb
    have dP : IntKind.u64.wrap ((q : Int) * (y0 : Int)) = (P : Int) := by rw [IntKind.wrap_u64, ← hP]; simp; omega
    have HP := Lib.hid hP
    clear hP
    by_cases hA : 4294967296 ≤ q
    · obtain ⟨w1, hD, w2⟩ := half_down y1 y0 hi u1 q r hH.out (by omega) (by rw [← E0.out]; exact hlt) u1c (.inl hA)
      obtain ⟨p, hqp⟩ : ∃ p, q = p + 1 := ⟨q - 1, by omega⟩
      have hqi : (q : Int) - 1 = (p : Int) := by omega
      rw [show q - 1 = p by omega] at hD w2
      have HD := Lib.hid hD
      clear hD hqp w1
      have hC1 : decide ((4294967296 : Int) ≤ (q : Int)) = true := by simp; omega
      by_cases hE : 4294967296 ≤ r + y1
      · have hE1 : (4294967296 : Int) ≤ (r : Int) + (y1 : Int) := by omega
        have HQ1 : Hid (p = (hi * 4294967296 + u1) / y) := Lib.hid (by rw [E0.out]; exact half_break y1 y0 hi u1 p (r + y1) HD.out (by omega) y0c w2 hE)
        obtain ⟨r1, hr1⟩ : ∃ r1, (hi * 4294967296 + u1) % y = r1 := ⟨_, rfl⟩
        have hr1y : r1 < y := by rw [← hr1]; exact Nat.mod_lt _ (by omega)
        have e21 := div64_mid hi u1 y p r1 HQ1.out hr1 (by omega)
        have Hr1 := Lib.hid hr1.symm
        have HS2 := Lib.hid (half_start y1 y0 r1 u0 y1a y0c (by have := E0.out; omega) u0c)
        obtain ⟨Q2, hQ2⟩ : ∃ Q, r1 / y1 = Q := ⟨_, rfl⟩
        obtain ⟨R2, hR2⟩ : ∃ R, r1 % y1 = R := ⟨_, rfl⟩
        have hRb2 : R2 < y1 := by rw [← hR2]; exact Nat.mod_lt _ (by omega)
        rw [hQ2, hR2] at HS2
        have d32 : (r1 : Int) / (y1 : Int) = (Q2 : Int) := by rw [← hQ2]; simp
        have hQb2 := HS2.out.le
        have hQv2 := HS2.out.val
        obtain ⟨T2, hT2⟩ : ∃ T, Q2 * y1 = T := ⟨_, rfl⟩
        rw [hT2] at hQv2
        have d42 : IntKind.u64.wrap ((Q2 : Int) * (y1 : Int)) = (T2 : Int) := by rw [IntKind.wrap_u64, ← hT2]; simp; omega
        clear hQ2 hR2 hT2 hr1
        go_wp2_with fail
        go_loopw [18, 16] (fun u v wr => ∃ q r : Nat, u = .int .u64 (q : Int) ∧ v = .int .u64 (r : Int) ∧ q ≤ 4294967297 ∧ r < 4294967296 ∧ Hid (Half y1 y0 r1 u0 q r) ∧ w = wr) (fun u _ _ => (intOf u).toNat)
        case atStart => exact ⟨Q2, R2, rfl, by go_num, by omega, by omega, HS2, rfl⟩
        case round =>
          obtain ⟨q, r, rfl, rfl, hq, hr, hH, rfl⟩ := hrel
          have hPb := Nat.mul_le_mul hq (show y0 ≤ 4294967295 by omega)
          obtain ⟨P, hP⟩ : ∃ P, q * y0 = P := ⟨_, rfl⟩
          rw [hP] at hPb
          have dP : IntKind.u64.wrap ((q : Int) * (y0 : Int)) = (P : Int) := by rw [IntKind.wrap_u64, ← hP]; simp; omega
          have HP := Lib.hid hP
          clear hP
          by_cases hA : 4294967296 ≤ q
          · obtain ⟨w1, hD, w2⟩ := half_down y1 y0 r1 u0 q r hH.out (by omega) (by rw [← E0.out]; exact hr1y) u0c (.inl hA)
            obtain ⟨q2, hqp⟩ : ∃ p, q = p + 1 := ⟨q - 1, by omega⟩
            have hqi : (q : Int) - 1 = (q2 : Int) := by omega
            rw [show q - 1 = q2 by omega] at hD w2
            have HD := Lib.hid hD
            clear hD hqp w1
            have hC1 : decide ((4294967296 : Int) ≤ (q : Int)) = true := by simp; omega
            by_cases hE : 4294967296 ≤ r + y1
            · have hE1 : (4294967296 : Int) ≤ (r : Int) + (y1 : Int) := by omega
              have hF : q2 = (r1 * 4294967296 + u0) / (y1 * 4294967296 + y0) := half_break y1 y0 r1 u0 q2 (r + y1) HD.out (by omega) y0c w2 hE
              rw [← E0.out] at hF
              obtain ⟨f1, f2⟩ := div64_end hi lo y u1 u0 p q2 r1 E1.out u0c HQ1.out Hr1.out hF hyl hlt hl
              have HF1 := Lib.hid f1
              have HF2 := Lib.hid f2
              clear hF f1 f2
              go_wp2_with fail
              go_ret2
              exact ⟨ret_tup2 (by first | exact HF1.out | (have h := HF1.out; simp only [IntKind.wrap_u64] at h ⊢; omega)) (by first | exact HF2.out | (have h := HF2.out; simp only [IntKind.wrap_u64] at h ⊢; omega)), by first | exact Below.refl _ _ | exact (Below.refl _ w).drew | exact below_drewN (Below.refl _ _) _⟩
            · have hE1 : ¬ (4294967296 : Int) ≤ (r : Int) + (y1 : Int) := by omega
              go_wp2_with fail
              go_roundw
              case rel => exact ⟨q2, r + y1, by go_num, by go_num, by omega, by omega, HD, trivial⟩
              case measure => simp [intOf]; omega
          · by_cases hB : 4294967296 * r + u0 < P
            · obtain ⟨w1, hD, w2⟩ := half_down y1 y0 r1 u0 q r hH.out (by omega) (by rw [← E0.out]; exact hr1y) u0c (.inr (by rw [HP.out]; exact hB))
              obtain ⟨q2, hqp⟩ : ∃ p, q = p + 1 := ⟨q - 1, by omega⟩
              have hqi : (q : Int) - 1 = (q2 : Int) := by omega
              rw [show q - 1 = q2 by omega] at hD w2
              have HD := Lib.hid hD
              clear hD hqp w1
              have hC1 : decide ((4294967296 : Int) ≤ (q : Int)) = false := by simp; omega
              by_cases hE : 4294967296 ≤ r + y1
              · have hE1 : (4294967296 : Int) ≤ (r : Int) + (y1 : Int) := by omega
                have hF : q2 = (r1 * 4294967296 + u0) / (y1 * 4294967296 + y0) := half_break y1 y0 r1 u0 q2 (r + y1) HD.out (by omega) y0c w2 hE
                rw [← E0.out] at hF
                obtain ⟨f1, f2⟩ := div64_end hi lo y u1 u0 p q2 r1 E1.out u0c HQ1.out Hr1.out hF hyl hlt hl
                have HF1 := Lib.hid f1
                have HF2 := Lib.hid f2
                clear hF f1 f2
                go_wp2_with fail
                go_ret2
                exact ⟨ret_tup2 (by first | exact HF1.out | (have h := HF1.out; simp only [IntKind.wrap_u64] at h ⊢; omega)) (by first | exact HF2.out | (have h := HF2.out; simp only [IntKind.wrap_u64] at h ⊢; omega)), by first | exact Below.refl _ _ | exact (Below.refl _ w).drew | exact below_drewN (Below.refl _ _) _⟩
              · have hE1 : ¬ (4294967296 : Int) ≤ (r : Int) + (y1 : Int) := by omega
                go_wp2_with fail
                go_roundw
                case rel => exact ⟨q2, r + y1, by go_num, by go_num, by omega, by omega, HD, trivial⟩
                case measure => simp [intOf]; omega
            · have hC1 : decide ((4294967296 : Int) ≤ (q : Int)) = false := by simp; omega
              obtain ⟨q2, rfl⟩ : ∃ q2, q2 = q := ⟨q, rfl⟩
              have hF : q2 = (r1 * 4294967296 + u0) / (y1 * 4294967296 + y0) := half_stop y1 y0 r1 u0 q2 r hH.out (by omega) (by rw [HP.out]; omega)
              rw [← E0.out] at hF
              obtain ⟨f1, f2⟩ := div64_end hi lo y u1 u0 p q2 r1 E1.out u0c HQ1.out Hr1.out hF hyl hlt hl
              have HF1 := Lib.hid f1
              have HF2 := Lib.hid f2
              clear hF f1 f2
              go_wp2_with fail
              go_ret2
              exact ⟨ret_tup2 (by first | exact HF1.out | (have h := HF1.out; simp only [IntKind.wrap_u64] at h ⊢; omega)) (by first | exact HF2.out | (have h := HF2.out; simp only [IntKind.wrap_u64] at h ⊢; omega)), by first | exact Below.refl _ _ | exact (Below.refl _ w).drew | exact below_drewN (Below.refl _ _) _⟩
      · have hE1 : ¬ (4294967296 : Int) ≤ (r : Int) + (y1 : Int) := by omega
        go_wp2_with fail
        go_roundw
        case rel => exact ⟨p, r + y1, by go_num, by go_num, by omega, by omega, HD, trivial⟩
        case measure => simp [intOf]; omega
    · by_cases hB : 4294967296 * r + u1 < P
      · obtain ⟨w1, hD, w2⟩ := half_down y1 y0 hi u1 q r hH.out (by omega) (by rw [← E0.out]; exact hlt) u1c (.inr (by rw [HP.out]; exact hB))
        obtain ⟨p, hqp⟩ : ∃ p, q = p + 1 := ⟨q - 1, by omega⟩
        have hqi : (q : Int) - 1 = (p : Int) := by omega
        rw [show q - 1 = p by omega] at hD w2
        have HD := Lib.hid hD
        clear hD hqp w1
        have hC1 : decide ((4294967296 : Int) ≤ (q : Int)) = false := by simp; omega
        by_cases hE : 4294967296 ≤ r + y1
        · have hE1 : (4294967296 : Int) ≤ (r : Int) + (y1 : Int) := by omega
          have HQ1 : Hid (p = (hi * 4294967296 + u1) / y) := Lib.hid (by rw [E0.out]; exact half_break y1 y0 hi u1 p (r + y1) HD.out (by omega) y0c w2 hE)
          obtain ⟨r1, hr1⟩ : ∃ r1, (hi * 4294967296 + u1) % y = r1 := ⟨_, rfl⟩
          have hr1y : r1 < y := by rw [← hr1]; exact Nat.mod_lt _ (by omega)
          have e21 := div64_mid hi u1 y p r1 HQ1.out hr1 (by omega)
          have Hr1 := Lib.hid hr1.symm
          have HS2 := Lib.hid (half_start y1 y0 r1 u0 y1a y0c (by have := E0.out; omega) u0c)
          obtain ⟨Q2, hQ2⟩ : ∃ Q, r1 / y1 = Q := ⟨_, rfl⟩
          obtain ⟨R2, hR2⟩ : ∃ R, r1 % y1 = R := ⟨_, rfl⟩
          have hRb2 : R2 < y1 := by rw [← hR2]; exact Nat.mod_lt _ (by omega)
          rw [hQ2, hR2] at HS2
          have d32 : (r1 : Int) / (y1 : Int) = (Q2 : Int) := by rw [← hQ2]; simp
          have hQb2 := HS2.out.le
          have hQv2 := HS2.out.val
          obtain ⟨T2, hT2⟩ : ∃ T, Q2 * y1 = T := ⟨_, rfl⟩
          rw [hT2] at hQv2
          have d42 : IntKind.u64.wrap ((Q2 : Int) * (y1 : Int)) = (T2 : Int) := by rw [IntKind.wrap_u64, ← hT2]; simp; omega
          clear hQ2 hR2 hT2 hr1
          go_wp2_with fail
          go_loopw [18, 16] (fun u v wr => ∃ q r : Nat, u = .int .u64 (q : Int) ∧ v = .int .u64 (r : Int) ∧ q ≤ 4294967297 ∧ r < 4294967296 ∧ Hid (Half y1 y0 r1 u0 q r) ∧ w = wr) (fun u _ _ => (intOf u).toNat)
          case atStart => exact ⟨Q2, R2, rfl, by go_num, by omega, by omega, HS2, rfl⟩
          case round =>
            obtain ⟨q, r, rfl, rfl, hq, hr, hH, rfl⟩ := hrel
            have hPb := Nat.mul_le_mul hq (show y0 ≤ 4294967295 by omega)
            obtain ⟨P, hP⟩ : ∃ P, q * y0 = P := ⟨_, rfl⟩
            rw [hP] at hPb
            have dP : IntKind.u64.wrap ((q : Int) * (y0 : Int)) = (P : Int) := by rw [IntKind.wrap_u64, ← hP]; simp; omega
            have HP := Lib.hid hP
            clear hP
            by_cases hA : 4294967296 ≤ q
            · obtain ⟨w1, hD, w2⟩ := half_down y1 y0 r1 u0 q r hH.out (by omega) (by rw [← E0.out]; exact hr1y) u0c (.inl hA)
              obtain ⟨q2, hqp⟩ : ∃ p, q = p + 1 := ⟨q - 1, by omega⟩
              have hqi : (q : Int) - 1 = (q2 : Int) := by omega
              rw [show q - 1 = q2 by omega] at hD w2
              have HD := Lib.hid hD
              clear hD hqp w1
              have hC1 : decide ((4294967296 : Int) ≤ (q : Int)) = true := by simp; omega
              by_cases hE : 4294967296 ≤ r + y1
              · have hE1 : (4294967296 : Int) ≤ (r : Int) + (y1 : Int) := by omega
                have hF : q2 = (r1 * 4294967296 + u0) / (y1 * 4294967296 + y0) := half_break y1 y0 r1 u0 q2 (r + y1) HD.out (by omega) y0c w2 hE
                rw [← E0.out] at hF
                obtain ⟨f1, f2⟩ := div64_end hi lo y u1 u0 p q2 r1 E1.out u0c HQ1.out Hr1.out hF hyl hlt hl
                have HF1 := Lib.hid f1
                have HF2 := Lib.hid f2
                clear hF f1 f2
                go_wp2_with fail
                go_ret2
                exact ⟨ret_tup2 (by first | exact HF1.out | (have h := HF1.out; simp only [IntKind.wrap_u64] at h ⊢; omega)) (by first | exact HF2.out | (have h := HF2.out; simp only [IntKind.wrap_u64] at h ⊢; omega)), by first | exact Below.refl _ _ | exact (Below.refl _ w).drew | exact below_drewN (Below.refl _ _) _⟩
              · have hE1 : ¬ (4294967296 : Int) ≤ (r : Int) + (y1 : Int) := by omega
                go_wp2_with fail
                go_roundw
                case rel => exact ⟨q2, r + y1, by go_num, by go_num, by omega, by omega, HD, trivial⟩
                case measure => simp [intOf]; omega
            · by_cases hB : 4294967296 * r + u0 < P
              · obtain ⟨w1, hD, w2⟩ := half_down y1 y0 r1 u0 q r hH.out (by omega) (by rw [← E0.out]; exact hr1y) u0c (.inr (by rw [HP.out]; exact hB))
                obtain ⟨q2, hqp⟩ : ∃ p, q = p + 1 := ⟨q - 1, by omega⟩
                have hqi : (q : Int) - 1 = (q2 : Int) := by omega
                rw [show q - 1 = q2 by omega] at hD w2
                have HD := Lib.hid hD
                clear hD hqp w1
                have hC1 : decide ((4294967296 : Int) ≤ (q : Int)) = false := by simp; omega
                by_cases hE : 4294967296 ≤ r + y1
                · have hE1 : (4294967296 : Int) ≤ (r : Int) + (y1 : Int) := by omega
                  have hF : q2 = (r1 * 4294967296 + u0) / (y1 * 4294967296 + y0) := half_break y1 y0 r1 u0 q2 (r + y1) HD.out (by omega) y0c w2 hE
                  rw [← E0.out] at hF
                  obtain ⟨f1, f2⟩ := div64_end hi lo y u1 u0 p q2 r1 E1.out u0c HQ1.out Hr1.out hF hyl hlt hl
                  have HF1 := Lib.hid f1
                  have HF2 := Lib.hid f2
                  clear hF f1 f2
                  go_wp2_with fail
                  go_ret2
                  exact ⟨ret_tup2 (by first | exact HF1.out | (have h := HF1.out; simp only [IntKind.wrap_u64] at h ⊢; omega)) (by first | exact HF2.out | (have h := HF2.out; simp only [IntKind.wrap_u64] at h ⊢; omega)), by first | exact Below.refl _ _ | exact (Below.refl _ w).drew | exact below_drewN (Below.refl _ _) _⟩
                · have hE1 : ¬ (4294967296 : Int) ≤ (r : Int) + (y1 : Int) := by omega
                  go_wp2_with fail
                  go_roundw
                  case rel => exact ⟨q2, r + y1, by go_num, by go_num, by omega, by omega, HD, trivial⟩
                  case measure => simp [intOf]; omega
              · have hC1 : decide ((4294967296 : Int) ≤ (q : Int)) = false := by simp; omega
                obtain ⟨q2, rfl⟩ : ∃ q2, q2 = q := ⟨q, rfl⟩
                have hF : q2 = (r1 * 4294967296 + u0) / (y1 * 4294967296 + y0) := half_stop y1 y0 r1 u0 q2 r hH.out (by omega) (by rw [HP.out]; omega)
                rw [← E0.out] at hF
                obtain ⟨f1, f2⟩ := div64_end hi lo y u1 u0 p q2 r1 E1.out u0c HQ1.out Hr1.out hF hyl hlt hl
                have HF1 := Lib.hid f1
                have HF2 := Lib.hid f2
                clear hF f1 f2
                go_wp2_with fail
                go_ret2
                exact ⟨ret_tup2 (by first | exact HF1.out | (have h := HF1.out; simp only [IntKind.wrap_u64] at h ⊢; omega)) (by first | exact HF2.out | (have h := HF2.out; simp only [IntKind.wrap_u64] at h ⊢; omega)), by first | exact Below.refl _ _ | exact (Below.refl _ w).drew | exact below_drewN (Below.refl _ _) _⟩
        · have hE1 : ¬ (4294967296 : Int) ≤ (r : Int) + (y1 : Int) := by omega
          go_wp2_with fail
          go_roundw
          case rel => exact ⟨p, r + y1, by go_num, by go_num, by omega, by omega, HD, trivial⟩
          case measure => simp [intOf]; omega
      · have hC1 : decide ((4294967296 : Int) ≤ (q : Int)) = false := by simp; omega
        obtain ⟨p, rfl⟩ : ∃ p, p = q := ⟨q, rfl⟩
        have HQ1 : Hid (p = (hi * 4294967296 + u1) / y) := Lib.hid (by rw [E0.out]; exact half_stop y1 y0 hi u1 p r hH.out (by omega) (by rw [HP.out]; omega))
        obtain ⟨r1, hr1⟩ : ∃ r1, (hi * 4294967296 + u1) % y = r1 := ⟨_, rfl⟩
        have hr1y : r1 < y := by rw [← hr1]; exact Nat.mod_lt _ (by omega)
        have e21 := div64_mid hi u1 y p r1 HQ1.out hr1 (by omega)
        have Hr1 := Lib.hid hr1.symm
        have HS2 := Lib.hid (half_start y1 y0 r1 u0 y1a y0c (by have := E0.out; omega) u0c)
        obtain ⟨Q2, hQ2⟩ : ∃ Q, r1 / y1 = Q := ⟨_, rfl⟩
        obtain ⟨R2, hR2⟩ : ∃ R, r1 % y1 = R := ⟨_, rfl⟩
        have hRb2 : R2 < y1 := by rw [← hR2]; exact Nat.mod_lt _ (by omega)
        rw [hQ2, hR2] at HS2
        have d32 : (r1 : Int) / (y1 : Int) = (Q2 : Int) := by rw [← hQ2]; simp
        have hQb2 := HS2.out.le
        have hQv2 := HS2.out.val
        obtain ⟨T2, hT2⟩ : ∃ T, Q2 * y1 = T := ⟨_, rfl⟩
        rw [hT2] at hQv2
        have d42 : IntKind.u64.wrap ((Q2 : Int) * (y1 : Int)) = (T2 : Int) := by rw [IntKind.wrap_u64, ← hT2]; simp; omega
        clear hQ2 hR2 hT2 hr1
        go_wp2_with fail
        go_loopw [18, 16] (fun u v wr => ∃ q r : Nat, u = .int .u64 (q : Int) ∧ v = .int .u64 (r : Int) ∧ q ≤ 4294967297 ∧ r < 4294967296 ∧ Hid (Half y1 y0 r1 u0 q r) ∧ w = wr) (fun u _ _ => (intOf u).toNat)
        case atStart => exact ⟨Q2, R2, rfl, by go_num, by omega, by omega, HS2, rfl⟩
        case round =>
          obtain ⟨q, r, rfl, rfl, hq, hr, hH, rfl⟩ := hrel
          have hPb := Nat.mul_le_mul hq (show y0 ≤ 4294967295 by omega)
          obtain ⟨P, hP⟩ : ∃ P, q * y0 = P := ⟨_, rfl⟩
          rw [hP] at hPb
          have dP : IntKind.u64.wrap ((q : Int) * (y0 : Int)) = (P : Int) := by rw [IntKind.wrap_u64, ← hP]; simp; omega
          have HP := Lib.hid hP
          clear hP
          by_cases hA : 4294967296 ≤ q
          · obtain ⟨w1, hD, w2⟩ := half_down y1 y0 r1 u0 q r hH.out (by omega) (by rw [← E0.out]; exact hr1y) u0c (.inl hA)
            obtain ⟨q2, hqp⟩ : ∃ p, q = p + 1 := ⟨q - 1, by omega⟩
            have hqi : (q : Int) - 1 = (q2 : Int) := by omega
            rw [show q - 1 = q2 by omega] at hD w2
            have HD := Lib.hid hD
            clear hD hqp w1
            have hC1 : decide ((4294967296 : Int) ≤ (q : Int)) = true := by simp; omega
            by_cases hE : 4294967296 ≤ r + y1
            · have hE1 : (4294967296 : Int) ≤ (r : Int) + (y1 : Int) := by omega
              have hF : q2 = (r1 * 4294967296 + u0) / (y1 * 4294967296 + y0) := half_break y1 y0 r1 u0 q2 (r + y1) HD.out (by omega) y0c w2 hE
              rw [← E0.out] at hF
              obtain ⟨f1, f2⟩ := div64_end hi lo y u1 u0 p q2 r1 E1.out u0c HQ1.out Hr1.out hF hyl hlt hl
              have HF1 := Lib.hid f1
              have HF2 := Lib.hid f2
              clear hF f1 f2
              go_wp2_with fail
              go_ret2
              exact ⟨ret_tup2 (by first | exact HF1.out | (have h := HF1.out; simp only [IntKind.wrap_u64] at h ⊢; omega)) (by first | exact HF2.out | (have h := HF2.out; simp only [IntKind.wrap_u64] at h ⊢; omega)), by first | exact Below.refl _ _ | exact (Below.refl _ w).drew | exact below_drewN (Below.refl _ _) _⟩
            · have hE1 : ¬ (4294967296 : Int) ≤ (r : Int) + (y1 : Int) := by omega
              go_wp2_with fail
              go_roundw
              case rel => exact ⟨q2, r + y1, by go_num, by go_num, by omega, by omega, HD, trivial⟩
              case measure => simp [intOf]; omega
          · by_cases hB : 4294967296 * r + u0 < P
            · obtain ⟨w1, hD, w2⟩ := half_down y1 y0 r1 u0 q r hH.out (by omega) (by rw [← E0.out]; exact hr1y) u0c (.inr (by rw [HP.out]; exact hB))
              obtain ⟨q2, hqp⟩ : ∃ p, q = p + 1 := ⟨q - 1, by omega⟩
              have hqi : (q : Int) - 1 = (q2 : Int) := by omega
              rw [show q - 1 = q2 by omega] at hD w2
              have HD := Lib.hid hD
              clear hD hqp w1
              have hC1 : decide ((4294967296 : Int) ≤ (q : Int)) = false := by simp; omega
              by_cases hE : 4294967296 ≤ r + y1
              · have hE1 : (4294967296 : Int) ≤ (r : Int) + (y1 : Int) := by omega
                have hF : q2 = (r1 * 4294967296 + u0) / (y1 * 4294967296 + y0) := half_break y1 y0 r1 u0 q2 (r + y1) HD.out (by omega) y0c w2 hE
                rw [← E0.out] at hF
                obtain ⟨f1, f2⟩ := div64_end hi lo y u1 u0 p q2 r1 E1.out u0c HQ1.out Hr1.out hF hyl hlt hl
                have HF1 := Lib.hid f1
                have HF2 := Lib.hid f2
                clear hF f1 f2
                go_wp2_with fail
                go_ret2
                exact ⟨ret_tup2 (by first | exact HF1.out | (have h := HF1.out; simp only [IntKind.wrap_u64] at h ⊢; omega)) (by first | exact HF2.out | (have h := HF2.out; simp only [IntKind.wrap_u64] at h ⊢; omega)), by first | exact Below.refl _ _ | exact (Below.refl _ w).drew | exact below_drewN (Below.refl _ _) _⟩
              · have hE1 : ¬ (4294967296 : Int) ≤ (r : Int) + (y1 : Int) := by omega
                go_wp2_with fail
                go_roundw
                case rel => exact ⟨q2, r + y1, by go_num, by go_num, by omega, by omega, HD, trivial⟩
                case measure => simp [intOf]; omega
            · have hC1 : decide ((4294967296 : Int) ≤ (q : Int)) = false := by simp; omega
              obtain ⟨q2, rfl⟩ : ∃ q2, q2 = q := ⟨q, rfl⟩
              have hF : q2 = (r1 * 4294967296 + u0) / (y1 * 4294967296 + y0) := half_stop y1 y0 r1 u0 q2 r hH.out (by omega) (by rw [HP.out]; omega)
              rw [← E0.out] at hF
              obtain ⟨f1, f2⟩ := div64_end hi lo y u1 u0 p q2 r1 E1.out u0c HQ1.out Hr1.out hF hyl hlt hl
              have HF1 := Lib.hid f1
              have HF2 := Lib.hid f2
              clear hF f1 f2
              go_wp2_with fail
              go_ret2
              exact ⟨ret_tup2 (by first | exact HF1.out | (have h := HF1.out; simp only [IntKind.wrap_u64] at h ⊢; omega)) (by first | exact HF2.out | (have h := HF2.out; simp only [IntKind.wrap_u64] at h ⊢; omega)), by first | exact Below.refl _ _ | exact (Below.refl _ w).drew | exact below_drewN (Below.refl _ _) _⟩

/-- math/bits.Div64 at a divisor of 64 bits. -/
theorem div64_any (hi lo y : Nat) (w : World) (hlt : hi < y) (hl : lo < 18446744073709551616) (hy : 9223372036854775808 ≤ y) (hyl : y < 18446744073709551616) :
    Calls Tryz.prog 165 #[.int .u64 (hi : Int), .int .u64 (lo : Int), .int .u64 (y : Int)] w fun e w' => e = .returned (.tuple #[.int .u64 (((hi * 18446744073709551616 + lo) / y : Nat) : Int), .int .u64 (((hi * 18446744073709551616 + lo) % y : Nat) : Int)]) ∧ Below w.heap.size w w' := by
  by_cases h0 : hi = 0
  · subst h0
    rw [Nat.zero_mul, Nat.zero_add]
    exact div64_zero lo y w hl hyl (by omega)
  · exact div64_core hi lo y _ _ w (by omega) hlt hl hy hyl rfl rfl
end Go.Proofs.YtjlaadadbpffdaaGreatDoor

namespace Go.Plumb
open Go.RowKit
theorem lenN_shift (B k : Nat) (h : B ≠ 0) : lenN (B * 2 ^ k) = lenN B + k := by
  have h1 := lt_lenN B
  have h2 := lenN_ge B h
  have h3 : lenN B ≠ 0 := by intro e; rw [e] at h1; simp at h1; exact h h1
  refine lenN_unique ?_ (.inr ?_)
  · rw [Nat.pow_add]; exact Nat.mul_lt_mul_of_pos_right h1 (Nat.two_pow_pos k)
  · rw [show lenN B + k - 1 = (lenN B - 1) + k by omega, Nat.pow_add]; exact Nat.mul_le_mul_right _ h2
/-- A divisor brought up: as many limbs, the top bit set. -/
theorem norm_top (B n k t : Nat) (h : B ≠ 0) (hn : (limbs B).length = n) (ht : (limbs B).getD (n - 1) 0 = t) (hk : k + lenN t = 64) : (limbs (B * 2 ^ k)).length = n ∧ 9223372036854775808 ≤ (limbs (B * 2 ^ k)).getD (n - 1) 0 := by
  have hp : 0 < n := by rw [← hn]; exact List.length_pos_iff.2 fun e => h ((limbs_nil_iff B).1 e)
  have hL := lenN_limbs B h
  rw [hn, ht] at hL
  have hV := lenN_shift B k h
  have hlen : lenN (B * 2 ^ k) = 64 * n := by omega
  have hV0 : B * 2 ^ k ≠ 0 := by
    intro e; rw [e] at hlen
    have : lenN 0 = 0 := rfl
    omega
  have h1 := lt_lenN (B * 2 ^ k)
  have h2 := lenN_ge (B * 2 ^ k) hV0
  rw [hlen] at h1 h2
  have hB : ∀ m : Nat, (18446744073709551616 : Nat) ^ m = 2 ^ (64 * m) := fun m => by rw [Nat.pow_mul]
  have hle : (limbs (B * 2 ^ k)).length ≤ n := length_limbs_le _ _ (by rw [hB]; exact h1)
  have hge : n ≤ (limbs (B * 2 ^ k)).length := by
    apply Nat.le_of_not_lt
    intro hlt
    have h3 := lt_pow_length (B * 2 ^ k)
    rw [hB] at h3
    have h4 := Nat.pow_le_pow_right (show 0 < 2 by decide) (show 64 * (limbs (B * 2 ^ k)).length ≤ 64 * n - 1 by omega)
    omega
  refine ⟨by omega, ?_⟩
  apply Nat.le_of_not_lt
  intro hlt
  have e := valL_take_succ (limbs (B * 2 ^ k)) (n - 1) (by omega)
  rw [show n - 1 + 1 = (limbs (B * 2 ^ k)).length by omega, List.take_length, valL_limbs] at e
  have h5 := valL_lt ((limbs_limbs (B * 2 ^ k)).take (n - 1))
  rw [List.length_take, Nat.min_eq_left (by omega)] at h5
  have e63 : (2 : Nat) ^ 63 = 9223372036854775808 := by decide
  have h6 := Nat.mul_le_mul_left (18446744073709551616 ^ (n - 1)) (show (limbs (B * 2 ^ k)).getD (n - 1) 0 + 1 ≤ 2 ^ 63 by omega)
  rw [hB, ← Nat.pow_add, show 64 * (n - 1) + 63 = 64 * n - 1 by omega, Nat.mul_add] at h6
  rw [hB] at e h5
  omega
theorem div_guess (lu lv : List Nat) (j n V x1 x0 y : Nat) (hu : Limbs lu) (hjn : j + n + 1 ≤ lu.length) (hp : 0 < n) (hvl : lv.length = n) (hV : valL lv = V) (h1 : lu.getD (j + n) 0 = x1) (h0 : lu.getD (j + n - 1) 0 = x0) (hy : lv.getD (n - 1) 0 = y) (hy0 : 0 < y) :
    valL ((lu.drop j).take (n + 1)) / V ≤ (x1 * 18446744073709551616 + x0) / y := by
  obtain ⟨m, rfl⟩ : ∃ m, n = m + 1 := ⟨n - 1, by omega⟩
  have h := guess_ge ((lu.drop j).take (m + 1 + 1)) lv m _ V ((hu.drop j).take _) (by simp; omega) hvl rfl hV (by rw [show m = m + 1 - 1 by omega, hy]; exact hy0)
  rw [getD_take _ _ _ (by omega), getD_take _ _ _ (by omega), getD_drop, getD_drop, h1, show j + m = j + (m + 1) - 1 by omega, h0, show lv.getD m 0 = y from by rw [← hy]; rfl] at h
  exact h
/-- What a round of the division leaves. -/
theorem div_step (lu lq : List Nat) (j n V Q : Nat) (r : List Nat) (hu : Limbs lu) (hV0 : 0 < V) (hjn : j + n + 1 ≤ lu.length) (hjq : j < lq.length) (hq0 : lq.getD j 0 = 0) (hV : V < 18446744073709551616 ^ n) (hd : valL (lu.drop (j + 1)) < V)
    (hQ : Q = valL ((lu.drop j).take (n + 1)) / V) (hr : valL r = valL ((lu.drop j).take (n + 1)) - Q * V) (hrl : r.length = n + 1) :
    valL ((patch lu j r).drop j) < V ∧ valL (lq.set j Q) * V + valL (patch lu j r) = valL lq * V + valL lu := by
  obtain ⟨hz, he, hlt⟩ := div_round lu j n V hu hjn hV hd
  have hdm := Nat.div_add_mod (valL ((lu.drop j).take (n + 1))) V
  have hm := Nat.mod_lt (valL ((lu.drop j).take (n + 1))) hV0
  rw [← hQ, Nat.mul_comm] at hdm
  have hrv : valL r = valL ((lu.drop j).take (n + 1)) % V := by omega
  refine ⟨?_, ?_⟩
  · have h0 := patch_drop lu j r (by omega)
    rw [hrl, show j + (n + 1) = j + n + 1 from rfl, hz, Nat.mul_zero, Nat.add_zero, hrv] at h0
    rw [h0]
    exact hm
  · have h1 := patch_value lu j r (by omega)
    rw [hrl] at h1
    have h2 := valL_set lq j Q hjq
    rw [hq0, Nat.mul_zero, Nat.add_zero] at h2
    have h3 : valL ((lu.drop j).take (n + 1)) = Q * V + valL r := by omega
    clear hdm hm hrv hz he hlt hd hV hQ hr
    rw [h2, Nat.add_mul, Nat.mul_assoc]
    rw [h3] at h1
    generalize 18446744073709551616 ^ j = x at *
    rw [Nat.mul_add] at h1
    generalize x * (Q * V) = y at *
    generalize x * valL r = z at *
    generalize valL lq * V = t at *
    omega
theorem div_top (lu0 lu1 lv : List Nat) (n N0 N1 V : Nat) (h1 : lu1 = lu0 ++ [0, 0]) (h0 : lu0.length = N0) (hN : N1 = N0 + 2) (hl : Limbs lu0) (hp : 0 < n) (hle : n ≤ N0) (hvl : lv.length = n) (hV : valL lv = V) (ht : 0 < lv.getD (n - 1) 0) (hV0 : 0 < V) : valL (lu1.drop (N1 - n)) < V := by
  subst h1
  by_cases hn1 : n = 1
  · subst hn1
    have : (lu0 ++ [0, 0]).drop (N1 - 1) = [0] := by
      rw [List.drop_append, List.drop_of_length_le (by omega), List.nil_append, h0, show N1 - 1 - N0 = 1 by omega]; rfl
    rw [this]
    simpa [valL] using hV0
  · rw [List.drop_append_of_le_length (by omega), valL_append]
    have e : valL [0, 0] = 0 := by simp [valL]
    rw [e, Nat.mul_zero, Nat.add_zero]
    have h2 := valL_lt (hl.drop (N1 - n))
    rw [List.length_drop] at h2
    have h3 := Nat.pow_le_pow_right (show 0 < 18446744073709551616 by decide) (show lu0.length - (N1 - n) ≤ n - 1 by omega)
    have h4 := valL_top lv (n - 1) (by omega)
    rw [hV] at h4
    have h5 := Nat.mul_le_mul_left (18446744073709551616 ^ (n - 1)) (show 1 ≤ lv.getD (n - 1) 0 from ht)
    omega
end Go.Plumb
namespace Go.Proofs.YtjlaadadbpffdaaGreatDoor
open Go.RowKit Go.Plumb

theorem div_less (a b : Option Addr) (c d A B : Nat) (w : World) (hA : Arr w a c (limbs A)) (hB : Arr w b d (limbs B)) (hl : (limbs A).length ≤ 100000) (hlt : A < B) :
    Calls Tryz.prog 138 #[.slice a (limbs A).length c, .slice b (limbs B).length d] w fun e w' => ∃ a' c', e = .returned (.tuple #[.slice none 0 0, .slice a' (limbs A).length c']) ∧ Arr w' a' c' (limbs A) ∧ Below w.heap.size w w' := by
  have hcmp := cmp_any a b c d A B w hA hB
  have hs0 : cmpN A B < 0 := by rw [cmpN_lt]; omega
  obtain ⟨s, hs⟩ : ∃ s, cmpN A B = s := ⟨_, rfl⟩
  rw [hs] at hcmp hs0
  go_enter Tryz.func138, Tryz.ntmps138
  go_wp2_with fail
  refine hcmp.mono ?_
  rintro e w1 ⟨rfl, hb⟩
  have hC := clone_any a c _ w1 (hA.below hb) (by omega)
  have HB := Lib.hid hb
  clear hcmp hs hA hB hb
  go_wp2_with fail
  refine hC.mono ?_
  rintro e w2 ⟨v, rfl, ho, hb2⟩
  obtain ⟨a', c', rfl⟩ := OwnL.shape ho
  have HArr := Lib.hid (OwnL.arr' ho (limbs_limbs _))
  have HB2 := Lib.hid (below_step HB.out hb2)
  clear hC ho hb2
  go_wp2_with fail
  go_ret2
  exact ⟨_, _, rfl, HArr.out, HB2.out⟩
theorem setCells_own {B g N c : Nat} : ∀ (cs : List Nat) (l : List Nat) (j : Nat) (w : World), OwnL w B (.slice (some ⟨g, 0, none⟩) N c) l → j + cs.length ≤ l.length →
    OwnL (w.setCells g j (cs.map limbV)) B (.slice (some ⟨g, 0, none⟩) N c) (patch l j cs) ∧ w.grownBy (w.setCells g j (cs.map limbV)) (some g)
  | [], l, j, w, h, _ => ⟨by rw [patch_nil]; exact h, grownBy_refl _ _⟩
  | x :: r, l, j, w, h, hj => by
    have hl : j + (r.length + 1) ≤ l.length := by simpa using hj
    have h1 := OwnL.store h j x (x : Int) rfl
    obtain ⟨h2, h3⟩ := setCells_own r (l.set j x) (j + 1) _ h1 (by simp; omega)
    refine ⟨?_, ?_⟩
    · have e : patch (l.set j x) (j + 1) r = patch l j (x :: r) := by
        unfold patch
        have e1 : (l.set j x).take (j + 1) = l.take j ++ [x] := by
          rw [List.take_succ_eq_append_getElem (by simp; omega), List.take_set_of_le (Nat.le_refl _)]
          simp
        have e2 : (l.set j x).drop (j + 1 + r.length) = l.drop (j + (x :: r).length) := by
          rw [List.drop_set_of_lt (by omega)]
          congr 1
          simp; omega
        rw [e1, e2]
        simp
      rw [← e]
      exact h2
    · have h4 := grownBy_setCell (grownBy_refl w (some g)) j (limbV x)
      exact ⟨h3.os.trans h4.os, h3.tape.trans h4.tape, h3.output.trans h4.output, Nat.le_trans h4.size h3.size, fun k hk hne => (h3.block k (Nat.lt_of_lt_of_le hk h4.size) hne).trans (h4.block k hk hne)⟩
theorem zeroval (w : World) : (zeroValue 31).run Tryz.prog w = .ok (limbV 0) w := by kernel_rfl
theorem clear_own {w : World} {B g N c j n c' : Nat} {l : List Nat} (h : OwnL w B (.slice (some ⟨g, 0, none⟩) N c) l) (hn : 0 < n) (hj : j + n ≤ l.length) :
    ∃ w', (∀ ty, (Builtin.clear_ #[22] ty #[.slice (some ⟨g, j, none⟩) n c']).run Tryz.prog w = .ok (.tuple #[]) w') ∧ OwnL w' B (.slice (some ⟨g, 0, none⟩) N c) (patch l j (List.replicate n 0)) ∧ w.grownBy w' (some g) := by
  obtain ⟨h1, h2⟩ := setCells_own (List.replicate n 0) l j w h (by simpa using hj)
  refine ⟨_, fun ty => ?_, h1, h2⟩
  have := Lib.run_clear_slice (P := Tryz.prog) w 22 31 ty (limbV 0) Tryz.underlying22 zeroval rfl rfl g j n c' hn (fun i hi => by
    rw [OwnL.cell h (j + i) (l[j + i]'(by omega)) (by simp)]; rfl) (fun i _ => OwnL.thaw h _)
  rw [this, List.map_replicate]
theorem arr_at {w : World} {a : Option Addr} {c : Nat} {l : List Nat} (h : Arr w a c l) (j : Nat) (hj : j < l.length) : ∃ b off, a = some ⟨b, off, none⟩ ∧ w.cell? ⟨b, off + j, none⟩ = some (limbV (l.getD j 0)) := h.2.2.2 j hj
theorem size_u64 : (Tryz.prog.info? 31).map (·.size) = some 1 := by kernel_rfl
theorem copy_own {w : World} {B g N c j n m c' cs : Nat} {sp : Option Addr} {l r : List Nat} (h : OwnL w B (.slice (some ⟨g, 0, none⟩) N c) l) (hA : Arr w sp cs r) (hm : r.length = m) (hmn : m ≤ n) (hj : j + n ≤ l.length) :
    ∃ w', (∀ ty, (Builtin.copy_ #[22, 22] ty #[.slice (some ⟨g, j, none⟩) n c', .slice sp m cs]).run Tryz.prog w = .ok (goInt m) w') ∧ OwnL w' B (.slice (some ⟨g, 0, none⟩) N c) (patch l j r) ∧ w.grownBy w' (some g) := by
  subst hm
  by_cases h0 : r.length = 0
  · obtain rfl : r = [] := List.length_eq_zero_iff.1 h0
    refine ⟨w, fun ty => ?_, by rw [patch_nil]; exact h, grownBy_refl _ _⟩
    exact run_copy_none (P := Tryz.prog) w 22 22 ty 31 _ _ n c' 0 cs Tryz.underlying22 size_u64 (by simp)
  · obtain ⟨b, off, rfl, _⟩ := hA.2.2.2 0 (by omega)
    obtain ⟨h1, h2⟩ := setCells_own r l j w h (by omega)
    refine ⟨_, fun ty => ?_, h1, h2⟩
    have := run_copy_cells (P := Tryz.prog) w 22 22 ty 31 g j n c' ⟨b, off, none⟩ r.length cs (r.map limbV) Tryz.underlying22 size_u64 (by rw [List.length_map]; exact (Nat.min_eq_left hmn).symm) (fun i v hv => by
      obtain ⟨hi, rfl⟩ := List.getElem?_eq_some_iff.1 hv
      obtain ⟨b', off', e, hc⟩ := arr_at hA i (by simpa using hi)
      cases e
      rw [Addr.add_lit, hc]
      simp [List.getD, show i < r.length by simpa using hi]) (fun i hi => by
      have hi' : i < r.length := by simpa using hi
      rw [OwnL.cell h (j + i) (l[j + i]'(by omega)) (by simp)]; rfl) (fun i _ => OwnL.thaw h _) (fun v hv => by obtain ⟨x, _, rfl⟩ := List.mem_map.1 hv; rfl)
    rw [this]
    simp
/-- What holds at the head of each round of the division. -/
structure DivRel (w2 : World) (gu gq nu nq capu V U : Nat) (m : Nat) (lu lq : List Nat) (wr : World) : Prop where
  lenu : lu.length = nu
  limu : Limbs lu
  lenq : lq.length = nq
  limq : Limbs lq
  val : valL lq * V + valL lu = U
  top : valL (lu.drop m) < V
  low : ∀ i, i < m → lq.getD i 0 = 0
  ownu : OwnL wr w2.heap.size (.slice (some ⟨gu, 0, none⟩) nu capu) lu
  ownq : OwnL wr w2.heap.size (.slice (some ⟨gq, 0, none⟩) nq nq) lq
  below : Below w2.heap.size w2 wr
theorem OwnL.later {w w' : World} {B : Nat} {v : Value} {l : List Nat} (h : OwnL w B v l) (hb : Below w.heap.size w w') : OwnL w' B v l := by
  obtain ⟨hx, hn | ⟨g, cap, cur, e, hg, hh, rest⟩⟩ := h
  · exact ⟨hx, .inl hn⟩
  · refine ⟨hx, .inr ⟨g, cap, cur, e, hg, ?_, rest⟩⟩
    rw [hb.block g (Array.getElem?_eq_some_iff.1 hh).1]
    exact hh
theorem DivRel.later {w2 : World} {gu gq nu nq capu V U m : Nat} {lu lq : List Nat} {wr wx : World} (h : DivRel w2 gu gq nu nq capu V U m lu lq wr) (hb : Below wr.heap.size wr wx) : DivRel w2 gu gq nu nq capu V U m lu lq wx :=
  ⟨h.lenu, h.limu, h.lenq, h.limq, h.val, h.top, h.low, OwnL.later h.ownu hb, OwnL.later h.ownq hb, h.below.trans (hb.mono h.below.size)⟩
theorem DivRel.window {w2 : World} {gu gq nu nq capu V U m : Nat} {lu lq : List Nat} {wr : World} (h : DivRel w2 gu gq nu nq capu V U m lu lq wr) (j n : Nat) (hj : j + n ≤ nu) (hc : nu ≤ capu) (hm : capu ≤ maxLen) : Arr wr (some ⟨gu, j, none⟩) (capu - j) ((lu.drop j).take n) := by
  have hl := h.lenu
  have hlen : ((lu.drop j).take n).length = n := by simp; omega
  refine ⟨by rw [hlen]; omega, by omega, (h.limu.drop j).take n, fun i hi => ⟨gu, j, rfl, ?_⟩⟩
  rw [hlen] at hi
  rw [getD_take _ _ _ hi, getD_drop]
  exact OwnL.cell h.ownu (j + i) _ (by simp [List.getD, show j + i < lu.length by omega])
theorem mulp_value (os lv : List Nat) (n cy g V : Nat) (hos : os.length = n) (hlv : lv.length = n) (hV : valL lv = V) (he : valL os + 18446744073709551616 ^ n * cy = valL (((List.replicate (n + 1) 0).drop 0).take n) + valL lv * g) :
    valL ((patch (List.replicate (n + 1) 0) 0 os).set n cy) = g * V := by
  have h1 : ((List.replicate (n + 1) 0).drop 0).take n = List.replicate n 0 := by simp [List.take_replicate]
  rw [h1, valL_replicate, Nat.zero_add, hV] at he
  have h2 : patch (List.replicate (n + 1) 0) 0 os = os ++ [0] := by
    unfold patch
    rw [hos]
    simp [List.drop_replicate]
  rw [h2, ← hos, List.set_append_right _ _ (Nat.le_refl _), Nat.sub_self, List.set_cons_zero, valL_append, valL_one, hos, he, Nat.mul_comm]
/-- Behind nat.mul into a new row, and the store of its carry: the product, and all that was there. -/
theorem mulp_own {w2 wx w5 : World} {n cy g V : Nat} {os lv : List Nat} (hos : os.length = n) (hlv : lv.length = n) (hV : valL lv = V) (hcy : cy < 18446744073709551616) (hlo : Limbs os) (he : valL os + 18446744073709551616 ^ n * cy = valL (((List.replicate (n + 1) 0).drop 0).take n) + valL lv * g)
    (ho : OwnL w5 w2.heap.size (.slice (some ⟨wx.heap.size, 0, none⟩) (n + 1) (n + 1)) (patch (List.replicate (n + 1) 0) 0 os)) (hg : (wx.alloc (.cells (zerosA (n + 1)) 31)).grownBy w5 (some wx.heap.size)) :
    w5.cell? ⟨wx.heap.size, n, none⟩ = some (.int .u64 0) ∧ w5.frozen? ⟨wx.heap.size, n, none⟩ = false ∧
      ∃ lp : List Nat, lp.length = n + 1 ∧ valL lp = g * V ∧ Limbs lp ∧ OwnL (w5.setCell ⟨wx.heap.size, n, none⟩ (.int .u64 (cy : Int))) w2.heap.size (.slice (some ⟨wx.heap.size, 0, none⟩) (n + 1) (n + 1)) lp ∧
        Below wx.heap.size wx (w5.setCell ⟨wx.heap.size, n, none⟩ (.int .u64 (cy : Int))) := by
  have hl : (patch (List.replicate (n + 1) 0) 0 os).length = n + 1 := by rw [patch_length _ _ _ (by simp; omega)]; simp
  refine ⟨?_, OwnL.thaw ho n, (patch (List.replicate (n + 1) 0) 0 os).set n cy, by simp [hl], mulp_value os lv n cy g V hos hlv hV he, (patch_limbs (Limbs.replicate _) hlo 0).set _ _ hcy, OwnL.store ho n cy _ rfl, ?_⟩
  · refine OwnL.cell ho n 0 ?_
    have h := patch_at (List.replicate (n + 1) 0) os 0 (by simp; omega)
    rw [hos, Nat.zero_add] at h
    rw [h]; simp
  · exact (((Below.refl _ wx).alloc (Nat.le_refl _) _).grown hg (by simp) (by intro q hq; cases hq; exact Nat.le_refl _)).setCell (Nat.le_refl _) _
theorem patch_patch (l r : List Nat) (j n : Nat) (hj : j + n ≤ l.length) (hr : r.length ≤ n) : patch (patch l j (List.replicate n 0)) j r = patch l j (fillL r n) := by
  unfold patch fillL
  have e1 : (l.take j).length = j := by simp; omega
  have h1 : (l.take j ++ List.replicate n 0 ++ l.drop (j + (List.replicate n 0).length)).take j = l.take j := by
    rw [List.append_assoc, List.take_append_of_le_length (by rw [e1]; exact Nat.le_refl _), List.take_of_length_le (by rw [e1]; exact Nat.le_refl _)]
  have h2 : (l.take j ++ List.replicate n 0 ++ l.drop (j + (List.replicate n 0).length)).drop (j + r.length) = List.replicate (n - r.length) 0 ++ l.drop (j + n) := by
    rw [List.append_assoc, List.drop_append, e1, List.drop_of_length_le (by rw [e1]; omega), List.nil_append, Nat.add_sub_cancel_left, List.drop_append_of_le_length (by simp; exact hr), List.drop_replicate]
    simp
  rw [h1, h2]
  have h3 : (r ++ List.replicate (n - r.length) 0).length = n := by simp; omega
  rw [h3]
  simp
theorem OwnL.grown {w w' : World} {B g : Nat} {v : Value} {l : List Nat} (h : OwnL w B v l) (hg : w.grownBy w' (some g)) (hne : v.ownBlock ≠ some g) : OwnL w' B v l := World.ownsRow.kept h hg (.inr hne)
theorem DivRel.fin {w2 w10 w11 w12 : World} {gu gq nu nq capu V U j n g : Nat} {lu lq : List Nat} (h : DivRel w2 gu gq nu nq capu V U (j + 1) lu lq w10) (hne : gq ≠ gu) (hgu : w2.heap.size ≤ gu) (hgq : w2.heap.size ≤ gq) (hjn : j + n + 1 ≤ nu) (hjq : j < nq) (hV : 0 < V ∧ V < 18446744073709551616 ^ n)
    (hQ : g = valL ((lu.drop j).take (n + 1)) / V) (hg : g < 18446744073709551616) (ho12 : OwnL w12 w2.heap.size (.slice (some ⟨gu, 0, none⟩) nu capu) (patch (patch lu j (List.replicate (n + 1) 0)) j (limbs (valL ((lu.drop j).take (n + 1)) - g * V)))) (g11 : w10.grownBy w11 (some gu)) (g12 : w11.grownBy w12 (some gu)) :
    w12.cell? ⟨gq, j, none⟩ = some (.int .u64 0) ∧ w12.frozen? ⟨gq, j, none⟩ = false ∧
      DivRel w2 gu gq nu nq capu V U j (patch lu j (fillL (limbs (valL ((lu.drop j).take (n + 1)) - g * V)) (n + 1))) (lq.set j g) (w12.setCell ⟨gq, j, none⟩ (.int .u64 (g : Int))) := by
  obtain ⟨l1, l2, l3, l4, hval, htop, hlow, hou, hoq, hb⟩ := h
  have hdm := Nat.div_add_mod (valL ((lu.drop j).take (n + 1))) V
  have hm := Nat.mod_lt (valL ((lu.drop j).take (n + 1))) hV.1
  rw [← hQ, Nat.mul_comm] at hdm
  have hR : (limbs (valL ((lu.drop j).take (n + 1)) - g * V)).length ≤ n := length_limbs_le _ _ (by omega)
  have hfl : (fillL (limbs (valL ((lu.drop j).take (n + 1)) - g * V)) (n + 1)).length = n + 1 := fillL_length _ _ (by omega)
  rw [patch_patch _ _ _ _ (by omega) (by omega)] at ho12
  have hoq2 := OwnL.grown (OwnL.grown hoq g11 (by simpa [Value.ownBlock] using hne)) g12 (by simpa [Value.ownBlock] using hne)
  have hstep := div_step lu lq j n V g (fillL (limbs (valL ((lu.drop j).take (n + 1)) - g * V)) (n + 1)) l2 hV.1 (by omega) (by omega) (hlow j (by omega)) hV.2 htop hQ (by rw [fillL_value, valL_limbs]) hfl
  have hz : lq[j]? = some 0 := by
    have := hlow j (by omega)
    rw [List.getElem?_eq_getElem (by omega)]
    simpa [List.getD, show j < lq.length by omega] using this
  have hB12 : Below w2.heap.size w2 w12 := (hb.grown g11 hb.size (fun q e => by cases e; exact hgu)).grown g12 (hb.grown g11 hb.size (fun q e => by cases e; exact hgu)).size (fun q e => by cases e; exact hgu)
  refine ⟨OwnL.cell hoq2 j 0 hz, OwnL.thaw hoq2 j, ⟨?_, ?_, by simp [l3], l4.set _ _ hg, by rw [hstep.2]; exact hval, hstep.1, ?_, ?_, OwnL.store hoq2 j g _ rfl, hB12.setCell hgq _⟩⟩
  · rw [patch_length _ _ _ (by omega)]; exact l1
  · exact patch_limbs l2 (fillL_limbs (limbs_limbs _) _) j
  · intro i hi
    have := hlow i (by omega)
    unfold List.getD at this ⊢
    rw [List.getElem?_set_ne (by omega)]
    exact this
  · refine World.ownsRow.kept ho12 (row := some gq) ?_ (.inr (by simpa [Value.ownBlock] using Ne.symm hne))
    exact grownBy_setCell (grownBy_refl _ _) _ _
theorem OwnL.lt {w : World} {B g n c : Nat} {l : List Nat} (h : OwnL w B (.slice (some ⟨g, 0, none⟩) n c) l) : g < w.heap.size := by
  obtain rfl := h.len
  unfold OwnL at h
  exact (World.ownsRow.lt h g rfl).2
end Go.Proofs.YtjlaadadbpffdaaGreatDoor
