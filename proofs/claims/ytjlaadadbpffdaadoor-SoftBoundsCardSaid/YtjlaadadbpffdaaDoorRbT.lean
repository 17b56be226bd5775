/-
  BitsR, BitsS, RoundR, BitsT: as one text.
-/
import Derived.Test.YtjlaadadbpffdaaDoorBnF
import Derived.Deep.LoopGhost
set_option linter.unusedSimpArgs false
set_option linter.unusedVariables false
namespace Go.Proofs.YtjlaadadbpffdaaDoor
open Go.RowKit Go.Plumb

set_option maxHeartbeats 400000 in
theorem rclass_any (x : Int) (w : World) (h0 : 0 ≤ x) (h1 : x < 18446744073709551616) :
    Calls Tryd.prog 55 #[.int .u64 x] w fun e w' => e = .returned (.int .i64 (classI x)) ∧ w = w' := by
  have e1 := and_2047 (x := x / 4503599627370496) (by omega) (by omega)
  have e2 := and_least h0 h1
  clear h0 h1
  go_enter Tryd.func55, Tryd.ntmps55
  go_wp2
  all_goals go_ret
  all_goals refine ⟨ret_int ?_, rfl⟩
  all_goals (clear e1 e2; unfold classI; (repeat' split) <;> first | rfl | (exfalso; simp_all; done) | (exfalso; simp_all; omega))

theorem rone_any (x : Int) (w : World) (h0 : 0 ≤ x) (h1 : x < 18446744073709551616) :
    Calls Tryd.prog 27 #[.int .u64 x] w fun e w' => e = .returned (.int .u64 (oneI x)) ∧ w = w' := by
  go_enter Tryd.func27, Tryd.ntmps27
  go_wp2_with (go_at_call 55; refine (rclass_any _ _ h0 h1).mono ?_; rintro e w' ⟨rfl, rfl⟩)
  all_goals go_ret
  all_goals refine ⟨ret_int ?_, rfl⟩
  all_goals (rw [oneI]; simp_all [nanW])

end Go.Proofs.YtjlaadadbpffdaaDoor

namespace Go.Plumb
def putI (neg : Bool) (m e : Int) : Int :=
  (if m < 4503599627370496 then m else if e > 971 then infW else (e + 1075) * 4503599627370496 + m - 4503599627370496) + (if neg then signW else 0)
/-- The last digit that fell away behind j halvings; did one fall before it? -/
def halfB (x : Int) (j : Nat) : Bool := match j with | 0 => false | j + 1 => x / 2 ^ j % 2 == 1
def restB (x : Int) (more : Bool) (j : Nat) : Bool := match j with | 0 => more | j + 1 => more || x % 2 ^ j != 0

theorem half_succ (x : Int) (j : Nat) : halfB x (j + 1) = (x / 2 ^ j % 2 == 1) := rfl
theorem rest_succ (x : Int) (more : Bool) (j : Nat) (h0 : 0 ≤ x) : restB x more (j + 1) = (restB x more j || halfB x j) := by
  cases j with
  | zero => simp [restB, halfB]
  | succ j =>
    simp only [restB, halfB, Bool.or_assoc]
    congr 1
    obtain ⟨n, rfl⟩ := Int.eq_ofNat_of_zero_le h0
    have h : n % 2 ^ (j + 1) = n % 2 ^ j + 2 ^ j * (n / 2 ^ j % 2) := Nat.mod_pow_succ
    have e1 : (n : Int) % 2 ^ (j + 1) = ((n % 2 ^ (j + 1) : Nat) : Int) := by simp
    have e2 : (n : Int) % 2 ^ j = ((n % 2 ^ j : Nat) : Int) := by simp
    have e3 : (n : Int) / 2 ^ j % 2 = ((n / 2 ^ j % 2 : Nat) : Int) := by simp
    rw [e1, e2, e3, h]
    generalize n % 2 ^ j = a
    have hb : n / 2 ^ j % 2 < 2 := Nat.mod_lt _ (by decide)
    generalize n / 2 ^ j % 2 = b at hb
    have hp : 0 < 2 ^ j := Nat.two_pow_pos j
    generalize 2 ^ j = p at hp
    rcases (by omega : b = 0 ∨ b = 1) with rfl | rfl
    · simp
    · rw [Nat.mul_one]
      rw [Bool.eq_iff_iff]
      simp
      omega

theorem div_pow_succ (x : Int) (j : Nat) : x / 2 ^ j / 2 = x / 2 ^ (j + 1) := by
  rw [Int.ediv_ediv_of_nonneg (Int.le_of_lt (Int.pow_pos (by decide))), Int.pow_succ]

/-- How long the second loop can go. -/
theorem j_le (n : Nat) (y : Int) (j : Nat) (hn : n < 18446744073709551616) (hy : -3000 ≤ y) (h : 0 < j → (9007199254740992 ≤ (n : Int) / 2 ^ (j - 1) ∨ y + (j - 1 : Nat) < -1074)) : j ≤ 2000 := by
  by_cases h0 : j = 0
  · omega
  · rcases h (by omega) with h | h
    · apply Nat.le_of_not_lt
      intro hj
      have h1 : 2 ^ 64 ≤ 2 ^ (j - 1) := Nat.pow_le_pow_right (by decide) (by omega)
      have e : (n : Int) / 2 ^ (j - 1) = ((n / 2 ^ (j - 1) : Nat) : Int) := by simp
      rw [e, Nat.div_eq_of_lt (by omega)] at h
      omega
    · omega

end Go.Plumb
namespace Go.Proofs.YtjlaadadbpffdaaDoor
open Go.RowKit Go.Plumb

end Go.Proofs.YtjlaadadbpffdaaDoor

namespace Go.Plumb

theorem putI_word (neg : Bool) (q : Nat) (e : Int) (hu : q ≤ 9007199254740992) (he : -1074 ≤ e) (hn : e = -1074 ∨ 4503599627370496 ≤ q) :
    putI neg q e = (wordN neg (min ((e + 1074).toNat * 4503599627370496 + q) 9218868437227405312) : Int) := by
  obtain ⟨p, hp⟩ : ∃ p : Nat, e = (p : Int) - 1074 := ⟨(e + 1074).toNat, by omega⟩
  subst hp
  have e1 : ((p : Int) - 1074 + 1074).toNat = p := by omega
  rw [e1]
  unfold putI wordN infW signW
  rcases Nat.le_total (p * 4503599627370496 + q) 9218868437227405312 with h | h
  · rw [Nat.min_eq_left h]
    cases neg <;> simp only [if_true, if_false, Bool.false_eq_true] <;> (repeat' split) <;> omega
  · rw [Nat.min_eq_right h]
    cases neg <;> simp only [if_true, if_false, Bool.false_eq_true] <;> (repeat' split) <;> omega

theorem put_carry (neg : Bool) (q : Nat) (e : Int) (hq : q + 1 = 9007199254740992) (he : -1074 ≤ e) : putI neg 4503599627370496 (e + 1) = putI neg ((q + 1 : Nat) : Int) e := by
  rw [putI_word neg (q + 1) e (by omega) he (.inr (by omega))]
  have := putI_word neg 4503599627370496 (e + 1) (by omega) (by omega) (.inr (by omega))
  rw [show ((4503599627370496 : Nat) : Int) = 4503599627370496 from rfl] at this
  rw [this]
  have e2 : (e + 1 + 1074).toNat = (e + 1074).toNat + 1 := by omega
  rw [e2, hq]
  generalize (e + 1074).toNat = p
  have h : (p + 1) * 4503599627370496 + 4503599627370496 = p * 4503599627370496 + 9007199254740992 := by omega
  rw [h]

theorem halfB_nat (N j : Nat) : halfB (N : Int) (j + 1) = (N / 2 ^ j % 2 == 1) := by
  rw [half_succ]
  have e3 : (N : Int) / 2 ^ j % 2 = ((N / 2 ^ j % 2 : Nat) : Int) := by simp
  rw [e3, Bool.eq_iff_iff]; simp; omega
theorem restB_nat (N j : Nat) (more : Bool) : restB (N : Int) more (j + 1) = (more || N % 2 ^ j != 0) := by
  show (more || (N : Int) % 2 ^ j != 0) = _
  have e3 : (N : Int) % 2 ^ j = ((N % 2 ^ j : Nat) : Int) := by simp
  rw [e3]
  congr 1
  rw [Bool.eq_iff_iff]; simp; omega

/-- The rounding by the last digit and what fell before it. -/
theorem rne_half (N j : Nat) : rne N j = N / 2 ^ j + (if (halfB N j && (restB N false j || (N : Int) / 2 ^ j % 2 == 1)) = true then 1 else 0) := by
  cases j with
  | zero => simp [rne, halfB, Nat.mod_one]
  | succ j =>
    rw [halfB_nat, restB_nat]
    have e3 : ((N : Int) / 2 ^ (j + 1) % 2 == 1) = (N / 2 ^ (j + 1) % 2 == 1) := by
      have : (N : Int) / 2 ^ (j + 1) % 2 = ((N / 2 ^ (j + 1) % 2 : Nat) : Int) := by simp
      rw [this, Bool.eq_iff_iff]; simp; omega
    rw [e3]
    unfold rne
    congr 1
    have hm : N % 2 ^ (j + 1) = N % 2 ^ j + 2 ^ j * (N / 2 ^ j % 2) := Nat.mod_pow_succ
    rw [hm, Nat.pow_succ]
    have hr : N % 2 ^ j < 2 ^ j := Nat.mod_lt _ (Nat.two_pow_pos j)
    have hb : N / 2 ^ j % 2 < 2 := Nat.mod_lt _ (by decide)
    generalize N % 2 ^ j = r at *
    generalize N / 2 ^ j % 2 = b at *
    generalize N / (2 ^ j * 2) % 2 = q
    have hp : 0 < 2 ^ j := Nat.two_pow_pos j
    generalize 2 ^ j = p at *
    rcases (by omega : b = 0 ∨ b = 1) with rfl | rfl
    · rw [if_neg (by omega), if_neg (by simp)]
    · simp only [Nat.mul_one, beq_self_eq_true, Bool.true_and, Bool.false_or]
      by_cases h0 : r = 0
      · subst h0
        by_cases hq : q = 1
        · rw [if_pos (by omega), if_pos (by simp [hq])]
        · rw [if_neg (by omega), if_neg (by simp [hq])]
      · rw [if_pos (by omega), if_pos (by simp [h0])]

theorem rne_half_true (N j : Nat) : rne (2 * N + 1) (j + 1 + 1) = N / 2 ^ (j + 1) + (if halfB N (j + 1) = true then 1 else 0) := by
  rw [halfB_nat]
  have hdiv : (2 * N + 1) / 2 ^ (j + 1 + 1) = N / 2 ^ (j + 1) := by
    rw [Nat.pow_succ, Nat.mul_comm (2 ^ (j + 1)) 2, ← Nat.div_div_eq_div_mul]
    congr 1; omega
  have hmod : (2 * N + 1) % 2 ^ (j + 1 + 1) = 2 * (N % 2 ^ (j + 1)) + 1 := by
    rw [Nat.pow_succ, Nat.mul_comm (2 ^ (j + 1)) 2, Nat.mod_mul]
    have a1 : (2 * N + 1) % 2 = 1 := by omega
    have a2 : (2 * N + 1) / 2 = N := by omega
    rw [a1, a2]; omega
  unfold rne
  rw [hdiv, hmod]
  congr 1
  have hm : N % 2 ^ (j + 1) = N % 2 ^ j + 2 ^ j * (N / 2 ^ j % 2) := Nat.mod_pow_succ
  rw [hm, Nat.pow_succ, Nat.pow_succ]
  have hr : N % 2 ^ j < 2 ^ j := Nat.mod_lt _ (Nat.two_pow_pos j)
  have hb : N / 2 ^ j % 2 < 2 := Nat.mod_lt _ (by decide)
  generalize N % 2 ^ j = r at *
  generalize N / 2 ^ j % 2 = b at *
  generalize N / (2 ^ j * 2) % 2 = q
  have hp : 0 < 2 ^ j := Nat.two_pow_pos j
  generalize 2 ^ j = p at *
  rcases (by omega : b = 0 ∨ b = 1) with rfl | rfl
  · rw [if_neg (by omega), if_neg (by simp)]
  · rw [if_pos (by omega), if_pos (by simp)]

theorem lt_len (N d : Nat) (h : 2 ^ d ≤ N) : d < lenN N := by
  apply Nat.lt_of_not_le
  intro h'
  have := lt_lenN N
  have h2 : 2 ^ lenN N ≤ 2 ^ d := Nat.pow_le_pow_right (by decide) h'
  omega

/-- Both ends of the reference's loops: how many places fall away. -/
theorem drop_of_loops (N j : Nat) (y : Int) (h1 : ¬ (N < 4503599627370496 ∧ -1074 < y)) (h3 : N / 2 ^ j < 9007199254740992) (h4 : -1074 ≤ y + j)
    (h5 : 0 < j → (9007199254740992 ≤ N / 2 ^ (j - 1) ∨ y + (j - 1 : Nat) < -1074)) : dropN N y = j ∧ (y + j = -1074 ∨ 4503599627370496 ≤ N / 2 ^ j) := by
  have a1 : lenN N ≤ 53 + j := by
    apply lenN_le
    rw [Nat.pow_add]
    exact (Nat.div_lt_iff_lt_mul (Nat.two_pow_pos j)).1 h3
  cases j with
  | zero =>
    simp only [Nat.pow_zero, Nat.div_one] at *
    have a2 : 4503599627370496 ≤ N → 53 ≤ lenN N := fun h => lt_len N 52 h
    unfold dropN
    constructor
    · rcases Nat.lt_or_ge N 4503599627370496 with h | h
      · have : y ≤ -1074 := by omega
        omega
      · have := a2 h; omega
    · omega
  | succ j =>
    have a2 : 9007199254740992 ≤ N / 2 ^ j → 53 + j < lenN N := by
      intro h
      apply lt_len
      rw [Nat.pow_add]
      exact (Nat.le_div_iff_mul_le (Nat.two_pow_pos j)).1 h
    have h5 := h5 (by omega)
    simp only [Nat.add_sub_cancel] at h5
    have e : N / 2 ^ (j + 1) = N / 2 ^ j / 2 := by rw [Nat.pow_succ, Nat.div_div_eq_div_mul]
    unfold dropN
    constructor
    · rcases h5 with h | h
      · have := a2 h; omega
      · omega
    · rcases h5 with h | h
      · right; rw [e]; omega
      · left; omega

theorem ref_round (neg more : Bool) (n : Nat) (e : Int) (k j : Nat) (hm : more = true → (9007199254740992 ≤ n ∨ e ≤ -1075)) (hz : ¬ (n = 0 ∧ more = false))
    (h1 : ¬ ((n : Int) * 2 ^ k < 4503599627370496 ∧ -1074 < e - k)) (h2 : 0 < k → (n : Int) * 2 ^ k < 9007199254740992 ∧ -1074 ≤ e - k)
    (h3 : (n : Int) * 2 ^ k / 2 ^ j < 9007199254740992) (h4 : -1074 ≤ e - k + j) (h5 : 0 < j → (9007199254740992 ≤ (n : Int) * 2 ^ k / 2 ^ (j - 1) ∨ e - k + (j - 1 : Nat) < -1074)) :
    (if (halfB ((n : Int) * 2 ^ k) j && (restB ((n : Int) * 2 ^ k) more j || (n : Int) * 2 ^ k / 2 ^ j % 2 == 1)) = true then
        (if (n : Int) * 2 ^ k / 2 ^ j + 1 = 9007199254740992 then putI neg 4503599627370496 (e - k + j + 1) else putI neg ((n : Int) * 2 ^ k / 2 ^ j + 1) (e - k + j)) else putI neg ((n : Int) * 2 ^ k / 2 ^ j) (e - k + j)) =
      (if more then (roundN neg (2 * n + 1) (e - 1) : Int) else (roundN neg n e : Int)) := by
  have hN : (n : Int) * 2 ^ k = ((n * 2 ^ k : Nat) : Int) := by simp
  have hD : ∀ i : Nat, ((n * 2 ^ k : Nat) : Int) / 2 ^ i = ((n * 2 ^ k / 2 ^ i : Nat) : Int) := by intro i; simp
  rw [hN] at h1 h2 h3 h5 ⊢
  simp only [hD] at h3 h5
  have hdrop := drop_of_loops (n * 2 ^ k) j (e - k) (by omega) (by omega) (by omega) (by omega)
  have hk : more = true → k = 0 := by
    intro h
    rcases Nat.eq_zero_or_pos k with h0 | h0
    · exact h0
    · have a := h2 h0
      rcases hm h with b | b
      · have : n * 1 ≤ n * 2 ^ k := Nat.mul_le_mul_left _ (Nat.two_pow_pos k)
        omega
      · omega
  have h3' : n * 2 ^ k / 2 ^ j < 9007199254740992 := by omega
  have main : ∀ c : Bool, (if c = true then (if ((n * 2 ^ k : Nat) : Int) / 2 ^ j + 1 = 9007199254740992 then putI neg 4503599627370496 (e - k + j + 1) else putI neg (((n * 2 ^ k : Nat) : Int) / 2 ^ j + 1) (e - k + j)) else putI neg (((n * 2 ^ k : Nat) : Int) / 2 ^ j) (e - k + j)) =
      (wordN neg (min ((e - k + j + 1074).toNat * 4503599627370496 + (n * 2 ^ k / 2 ^ j + (if c = true then 1 else 0))) 9218868437227405312) : Int) := by
    intro c
    rw [hD]
    generalize n * 2 ^ k / 2 ^ j = q at *
    cases c
    · simp only [Bool.false_eq_true, if_false, Nat.add_zero]
      exact putI_word neg q _ (by omega) h4 hdrop.2
    · simp only [if_true]
      have e1 : (q : Int) + 1 = ((q + 1 : Nat) : Int) := by simp
      rw [e1]
      by_cases hc : ((q + 1 : Nat) : Int) = 9007199254740992
      · rw [if_pos hc, put_carry neg q _ (by omega) h4]
        exact putI_word neg (q + 1) _ (by omega) h4 (by omega)
      · rw [if_neg hc]
        exact putI_word neg (q + 1) _ (by omega) h4 (by omega)
  rw [main]
  cases more with
  | false =>
    simp only [Bool.false_eq_true, if_false]
    rw [← rne_half, ← roundN_scale neg n e k]
    unfold roundN
    have h0 : n * 2 ^ k ≠ 0 := by
      intro h
      rcases Nat.mul_eq_zero.1 h with h | h
      · exact hz ⟨h, rfl⟩
      · have := Nat.two_pow_pos k; omega
    rw [if_neg h0, hdrop.1]
    unfold keptN
    by_cases hj : j = 0
    · subst hj
      rw [rne_zero]; simp
    · rw [if_neg (by omega), Int.toNat_natCast]
  | true =>
    have hk0 := hk rfl
    subst hk0
    simp only [Nat.pow_zero, Nat.mul_one, Int.natCast_zero, Int.sub_zero] at *
    have hj : j ≠ 0 := by
      intro h; subst h
      rcases hm trivial with b | b
      · simp at h3'; omega
      · omega
    obtain ⟨i, rfl⟩ : ∃ i, j = i + 1 := ⟨j - 1, by omega⟩
    have hr : restB (n : Int) true (i + 1) = true := by rw [restB_nat]; rfl
    rw [hr, Bool.true_or, Bool.and_true, ← rne_half_true]
    have hl2 := lenN_odd n
    have hD2 : dropN (2 * n + 1) (e - 1) = ((i + 1 + 1 : Nat) : Int) := by
      have := hdrop.1
      unfold dropN at this ⊢; omega
    rw [if_pos trivial]
    unfold roundN keptN
    rw [if_neg (by omega), hD2, if_neg (by omega), Int.toNat_natCast]
    have e1 : (e - 1 + ((i + 1 + 1 : Nat) : Int) + 1074).toNat = (e + ((i + 1 : Nat) : Int) + 1074).toNat := by congr 1; omega
    rw [e1]

end Go.Plumb

namespace Go.Plumb
theorem roundW_zero (neg : Bool) (m e : Int) (more : Bool) (h1 : m < 18446744073709551616) (h : (m = 0 ∧ more = false) ∨ e < -3000) : roundW neg m e more = (wordN neg 0 : Int) := by
  unfold roundW
  rcases h with ⟨rfl, rfl⟩ | h
  · rfl
  · split
    · rw [roundN_small neg _ _ (Nat.lt_of_lt_of_le (show 2 * m.toNat + 1 < 36893488147419103232 by omega) (by decide)) (by omega)]
    · rw [roundN_small neg _ _ (Nat.lt_of_lt_of_le (show m.toNat < 36893488147419103232 by omega) (by decide)) (by omega)]
theorem roundW_inf (neg : Bool) (m e : Int) (more : Bool) (h0 : 0 ≤ m) (h : ¬ (m = 0 ∧ more = false)) (he : 3000 < e) : roundW neg m e more = (wordN neg 9218868437227405312 : Int) := by
  unfold roundW
  split
  · rw [roundN_big neg _ _ (by omega) (by omega)]
  · rename_i hm
    rw [roundN_big neg _ _ (by intro h'; apply h; exact ⟨by omega, by simpa using hm⟩) (by omega)]
theorem wordN_sign (neg : Bool) (r : Nat) : (wordN neg r : Int) = if neg = true then 9223372036854775808 + (r : Int) else (r : Int) := by unfold wordN; split <;> simp
end Go.Plumb
namespace Go.Proofs.YtjlaadadbpffdaaDoor
open Go.RowKit Go.Plumb

end Go.Proofs.YtjlaadadbpffdaaDoor
