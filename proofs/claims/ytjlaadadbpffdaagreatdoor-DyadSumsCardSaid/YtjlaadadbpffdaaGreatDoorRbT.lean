/-
  BitsR, BitsS, RoundR, BitsT: as one text.
-/
import Derived.Test.YtjlaadadbpffdaaGreatDoorBnF
import Derived.Deep.LoopGhost
set_option linter.unusedSimpArgs false
set_option linter.unusedVariables false
namespace Go.Proofs.YtjlaadadbpffdaaGreatDoor
open Go.RowKit Go.Plumb

set_option maxHeartbeats 400000 in
theorem rclass_any (x : Int) (w : World) (h0 : 0 ≤ x) (h1 : x < 18446744073709551616) :
    Calls Tryz.prog 96 #[.int .u64 x] w fun e w' => e = .returned (.int .i64 (classI x)) ∧ w = w' := by
  have e1 := and_2047 (x := x / 4503599627370496) (by omega) (by omega)
  have e2 := and_least h0 h1
  clear h0 h1
  go_enter Tryz.func96, Tryz.ntmps96
  go_wp2
  all_goals go_ret
  all_goals refine ⟨ret_int ?_, rfl⟩
  all_goals (clear e1 e2; unfold classI; (repeat' split) <;> first | rfl | (exfalso; simp_all; done) | (exfalso; simp_all; omega))

theorem rfinite_any (x : Int) (w : World) (h0 : 0 ≤ x) (h1 : x < 18446744073709551616) :
    Calls Tryz.prog 26 #[.int .u64 x] w fun e w' => e = .returned (.bool (decide (classI x ≤ 3))) ∧ w = w' := by
  go_enter Tryz.func26, Tryz.ntmps26
  go_wp2_with (go_at_call 96; refine (rclass_any _ _ h0 h1).mono ?_; rintro e w' ⟨rfl, rfl⟩)
  go_ret
  exact ⟨rfl, rfl⟩

theorem rone_any (x : Int) (w : World) (h0 : 0 ≤ x) (h1 : x < 18446744073709551616) :
    Calls Tryz.prog 122 #[.int .u64 x] w fun e w' => e = .returned (.int .u64 (oneI x)) ∧ w = w' := by
  go_enter Tryz.func122, Tryz.ntmps122
  go_wp2_with (go_at_call 96; refine (rclass_any _ _ h0 h1).mono ?_; rintro e w' ⟨rfl, rfl⟩)
  all_goals go_ret
  all_goals refine ⟨ret_int ?_, rfl⟩
  all_goals (rw [oneI]; simp_all [nanW])

set_option maxHeartbeats 800000 in
theorem rparts_any (x : Int) (w : World) (h0 : 0 ≤ x) (h1 : x < 18446744073709551616) (hf : classI x ≤ 3) :
    Calls Tryz.prog 103 #[.int .u64 x] w fun e w' => e = .returned (.agg #[.bool (pNeg x), .int .u64 (pMan x), .int .i64 (pExp x)]) ∧ Below w.heap.size w w' := by
  have e1 := and_2047 (x := x / 4503599627370496) (by omega) (by omega)
  have e2 := and_least h0 h1
  have e3 : (decide (9223372036854775808 ≤ x)) = pNeg x := by
    unfold pNeg
    simp only [hf, decide_true, Bool.true_and]
    rw [Bool.eq_iff_iff]; simp; omega
  have hcs : classI x = 1 ∨ classI x = 2 ∨ classI x = 3 := by have := classI_cases x; omega
  clear hf
  rcases hcs with hc | hc | hc
  all_goals
    go_enter Tryz.func103, Tryz.ntmps103
    go_wp2_with (go_at_call 96; refine (rclass_any _ _ h0 h1).mono ?_; rintro e w' ⟨rfl, rfl⟩)
    exact bodyPost_ret (v := .agg #[.bool (pNeg x), .int .u64 (pMan x), .int .i64 (pExp x)]) (by simp [results, Tryz.results103, go_sem, pMan, pExp, hc]; try omega) rfl ⟨rfl, by (repeat' (first | exact Below.refl _ _ | assumption | (refine below_alloc ?_ _) | (refine Below.setCell ?_ ?_ _) | (refine Below.drew ?_) | (refine below_drewN ?_ _))) <;> (first | (simp; done) | (simp; omega) | omega)⟩

theorem rsign_any (neg : Bool) (x : Int) (w : World) (h0 : 0 ≤ x) (h1 : x < 9223372036854775808) :
    Calls Tryz.prog 166 #[.bool neg, .int .u64 x] w fun e w' => e = .returned (.int .u64 (if neg = true then 9223372036854775808 + x else x)) ∧ w = w' := by
  cases neg
  all_goals
    go_enter Tryz.func166, Tryz.ntmps166
    go_wp2
    go_ret
    exact ⟨ret_int (by first | (simp; done) | (simp; omega) | omega), rfl⟩

end Go.Proofs.YtjlaadadbpffdaaGreatDoor

namespace Go.Plumb
def putI (neg : Bool) (m e : Int) : Int :=
  (if m < 4503599627370496 then m else if e > 971 then infW else (e + 1075) * 4503599627370496 + m - 4503599627370496) + (if neg then signW else 0)
/-- The last digit that fell away behind j halvings; did one fall before it? -/
def halfB (x : Int) (j : Nat) : Bool := match j with | 0 => false | j + 1 => x / 2 ^ j % 2 == 1
def restB (x : Int) (more : Bool) (j : Nat) : Bool := match j with | 0 => more | j + 1 => more || x % 2 ^ j != 0

theorem half_succ (x : Int) (j : Nat) : halfB x (j + 1) = (x / 2 ^ j % 2 == 1) := rfl
theorem rest_succ (x : Int) (more : Bool) (j : Nat) (h0 : 0 ≤ x) : restB x more (j + 1) = (restB x more j || halfB x j) := by
  cases j with
  | zero => simp [restB, halfB]
  | succ j =>
    simp only [restB, halfB, Bool.or_assoc]
    congr 1
    obtain ⟨n, rfl⟩ := Int.eq_ofNat_of_zero_le h0
    have h : n % 2 ^ (j + 1) = n % 2 ^ j + 2 ^ j * (n / 2 ^ j % 2) := Nat.mod_pow_succ
    have e1 : (n : Int) % 2 ^ (j + 1) = ((n % 2 ^ (j + 1) : Nat) : Int) := by simp
    have e2 : (n : Int) % 2 ^ j = ((n % 2 ^ j : Nat) : Int) := by simp
    have e3 : (n : Int) / 2 ^ j % 2 = ((n / 2 ^ j % 2 : Nat) : Int) := by simp
    rw [e1, e2, e3, h]
    generalize n % 2 ^ j = a
    have hb : n / 2 ^ j % 2 < 2 := Nat.mod_lt _ (by decide)
    generalize n / 2 ^ j % 2 = b at hb
    have hp : 0 < 2 ^ j := Nat.two_pow_pos j
    generalize 2 ^ j = p at hp
    rcases (by omega : b = 0 ∨ b = 1) with rfl | rfl
    · simp
    · rw [Nat.mul_one]
      rw [Bool.eq_iff_iff]
      simp
      omega

theorem div_pow_succ (x : Int) (j : Nat) : x / 2 ^ j / 2 = x / 2 ^ (j + 1) := by
  rw [Int.ediv_ediv_of_nonneg (Int.le_of_lt (Int.pow_pos (by decide))), Int.pow_succ]

/-- How long the second loop can go. -/
theorem j_le (n : Nat) (y : Int) (j : Nat) (hn : n < 18446744073709551616) (hy : -3000 ≤ y) (h : 0 < j → (9007199254740992 ≤ (n : Int) / 2 ^ (j - 1) ∨ y + (j - 1 : Nat) < -1074)) : j ≤ 2000 := by
  by_cases h0 : j = 0
  · omega
  · rcases h (by omega) with h | h
    · apply Nat.le_of_not_lt
      intro hj
      have h1 : 2 ^ 64 ≤ 2 ^ (j - 1) := Nat.pow_le_pow_right (by decide) (by omega)
      have e : (n : Int) / 2 ^ (j - 1) = ((n / 2 ^ (j - 1) : Nat) : Int) := by simp
      rw [e, Nat.div_eq_of_lt (by omega)] at h
      omega
    · omega

end Go.Plumb
namespace Go.Proofs.YtjlaadadbpffdaaGreatDoor
open Go.RowKit Go.Plumb

theorem rput_any (neg : Bool) (m e : Int) (w : World) (h0 : 0 ≤ m) (h1 : m ≤ 9007199254740992) (h2 : -1074 ≤ e) (h3 : e ≤ 10000) :
    Calls Tryz.prog 167 #[.bool neg, .int .u64 m, .int .i64 e] w fun e' w' => e' = .returned (.int .u64 (putI neg m e)) ∧ w = w' := by
  go_enter Tryz.func167, Tryz.ntmps167
  go_wp2_with (go_at_call 166; (with_reducible refine (rsign_any _ _ _ ?_ ?_).mono ?_); rotate_left 2; (rintro e w' ⟨rfl, rfl⟩); rotate_left 1; (first | omega | (rw [IntKind.wrap_u64, IntKind.wrap_u64]; omega)); (first | omega | (rw [IntKind.wrap_u64, IntKind.wrap_u64]; omega)))
  all_goals go_ret
  all_goals refine ⟨ret_int ?_, rfl⟩
  all_goals simp only [putI, infW, signW]
  all_goals ((repeat' split) <;> first | omega | contradiction)

set_option maxHeartbeats 4000000 in
theorem rround_core (neg more zb : Bool) (n : Nat) (e : Int) (w : World) (hn : n < 18446744073709551616) (he0 : -3000 ≤ e) (he1 : e ≤ 3000) (hzb : ((n : Int) == 0) = zb) (hz : zb = false ∨ more = true) (R : Int)
    (hR : ∀ (k j : Nat) (h1 : ¬ ((n : Int) * 2 ^ k < 4503599627370496 ∧ -1074 < e - k)) (h2 : 0 < k → (n : Int) * 2 ^ k < 9007199254740992 ∧ -1074 ≤ e - k)
      (h3 : (n : Int) * 2 ^ k / 2 ^ j < 9007199254740992) (h4 : -1074 ≤ e - k + j) (h5 : 0 < j → (9007199254740992 ≤ (n : Int) * 2 ^ k / 2 ^ (j - 1) ∨ e - k + (j - 1 : Nat) < -1074)),
      (if (halfB ((n : Int) * 2 ^ k) j && (restB ((n : Int) * 2 ^ k) more j || (n : Int) * 2 ^ k / 2 ^ j % 2 == 1)) = true then
        (if (n : Int) * 2 ^ k / 2 ^ j + 1 = 9007199254740992 then putI neg 4503599627370496 (e - k + j + 1) else putI neg ((n : Int) * 2 ^ k / 2 ^ j + 1) (e - k + j)) else putI neg ((n : Int) * 2 ^ k / 2 ^ j) (e - k + j)) = R) :
    Calls Tryz.prog 142 #[.agg #[.bool neg, .int .u64 n, .int .i64 e], .bool more] w fun e' w' => e' = .returned (.int .u64 R) ∧ Below w.heap.size w w' := by
  have HR := Lib.hid hR
  clear hR
  have HN := Lib.hid hn
  have hz' : zb = false ∨ (zb = true ∧ more = true) := by cases zb <;> simp_all
  clear hz
  rcases hz' with rfl | ⟨rfl, rfl⟩
  all_goals
    go_enter Tryz.func142, Tryz.ntmps142
    go_wp2_with fail
    go_quiet (fail)
    go_wp2_with fail
    clear hzb hn
    go_loop [5, 6] (fun v5 v6 => ∃ (k : Nat) (x y : Int), v5 = .int .u64 x ∧ v6 = .int .i64 y ∧ x = (n : Int) * 2 ^ k ∧ y = e - k ∧ (0 < k → x < 9007199254740992 ∧ -1074 ≤ y) ∧ 0 ≤ x ∧ x < 18446744073709551616 ∧ -3000 ≤ y ∧ y ≤ 3000) (fun _ v6 => (intOf v6 + 1074).toNat)
    case atStart =>
      have := HN.out
      exact ⟨0, n, e, rfl, rfl, by simp, by simp, by omega, by omega, by omega, he0, he1⟩
    case round =>
      obtain ⟨k, x, y, rfl, rfl, hx, hy, hk, x0, x1, y0, y1⟩ := hrel
      have HX := Lib.hid hx
      have HY := Lib.hid hy
      have HK := Lib.hid hk
      clear hx hy hk
      by_cases hc : x < 4503599627370496 ∧ -1074 < y
      · obtain ⟨hc1, hc2⟩ := hc
        go_wp2_with fail
        go_round
        case rel => exact ⟨k + 1, _, _, rfl, rfl, by rw [HX.out, Int.pow_succ, Int.mul_assoc], by rw [HY.out]; omega, by omega, by omega, by omega, by omega, by omega⟩
        case measure => simp [intOf]; omega
      · have HC := Lib.hid hc
        have hc' : 4503599627370496 ≤ x ∨ (x < 4503599627370496 ∧ y ≤ -1074) := by omega
        clear hc
        rcases hc' with hc' | ⟨hc', hc''⟩
        all_goals
          go_wp2_with fail
          go_loop [5, 6, 7, 8] (fun v5 v6 v7 v8 => ∃ (j : Nat) (X Y : Int) (A B : Bool), v5 = .int .u64 X ∧ v6 = .int .i64 Y ∧ v7 = .bool A ∧ v8 = .bool B ∧ X = x / 2 ^ j ∧ Y = y + j ∧ A = halfB x j ∧ B = restB x _ j ∧ (0 < j → (9007199254740992 ≤ x / 2 ^ (j - 1) ∨ y + (j - 1 : Nat) < -1074)) ∧ 0 ≤ X ∧ X < 18446744073709551616 ∧ -3000 ≤ Y ∧ Y ≤ 6000) (fun v5 v6 _ _ => (intOf v5).toNat + (-1074 - intOf v6).toNat)
          case atStart =>
            exact ⟨0, x, y, _, _, rfl, rfl, rfl, rfl, by simp, by simp, rfl, rfl, by omega, by omega, by omega, by omega, by omega⟩
          case round =>
            obtain ⟨j, X, Y, A, B, rfl, rfl, rfl, rfl, hX, hY, hA, hB, hj, X0, X1, Y0, Y1⟩ := hrel
            have HXX := Lib.hid hX
            have HYY := Lib.hid hY
            have HA := Lib.hid hA
            have HB := Lib.hid hB
            have HJ := Lib.hid hj
            clear hX hY hA hB hj
            have hj2 : j ≤ 2000 := by
              have hxx : (x.toNat : Int) = x := by omega
              exact j_le x.toNat y j (by omega) y0 (by rw [hxx]; exact HJ.out)
            have hY2 : Y ≤ 5000 := by have := HYY.out; omega
            clear hj2 Y1
            by_cases hcc : 9007199254740992 ≤ X ∨ Y < -1074
            · have HCC := Lib.hid hcc
              have hcc' : 9007199254740992 ≤ X ∨ (X < 9007199254740992 ∧ Y < -1074) := by omega
              clear hcc
              have hrs : Hid (∀ mr, restB x mr (j + 1) = (restB x mr j || halfB x j)) := Lib.hid (fun mr => rest_succ x mr j x0)
              rcases hcc' with hcc' | ⟨hcc', hcc''⟩
              all_goals
                cases B
                all_goals
                  go_wp2_with fail
                  go_round
                  case rel => exact ⟨j + 1, _, _, _, _, rfl, rfl, rfl, rfl, by rw [HXX.out, div_pow_succ], by rw [HYY.out]; omega, by rw [half_succ, ← HXX.out], by rw [hrs.out, ← HB.out, ← HA.out]; rfl, fun _ => by rw [Nat.add_sub_cancel, ← HXX.out, ← HYY.out]; exact HCC.out, by omega, by omega, by omega, by omega⟩
                  case measure => simp [intOf]; omega
            · have HCC := Lib.hid hcc
              have hcc1 : X < 9007199254740992 := by omega
              have hcc2 : -1074 ≤ Y := by omega
              clear hcc
              have hfin : (if (A && (B || X % 2 == 1)) = true then (if X + 1 = 9007199254740992 then putI neg 4503599627370496 (Y + 1) else putI neg (X + 1) Y) else putI neg X Y) = R := by
                have := HR.out k j (by rw [← HX.out, ← HY.out]; exact HC.out) (by rw [← HX.out, ← HY.out]; exact HK.out) (by rw [← HX.out, ← HXX.out]; exact hcc1) (by rw [← HY.out, ← HYY.out]; exact hcc2) (by rw [← HX.out, ← HY.out]; exact HJ.out)
                rw [← HX.out, ← HY.out, ← HXX.out, ← HYY.out, ← HA.out, ← HB.out] at this
                exact this
              have HF := Lib.hid hfin
              clear hfin
              cases A <;> cases B
              all_goals
                go_wp2_with (go_at_call 167; (with_reducible refine (rput_any _ _ _ _ (by omega) (by omega) (by omega) (by omega)).mono ?_); rintro e w' ⟨rfl, rfl⟩)
                all_goals go_ret
                all_goals refine ⟨ret_int ?_, by (repeat' (first | exact Below.refl _ _ | assumption | (refine below_alloc ?_ _) | (refine Below.setCell ?_ ?_ _) | (refine Below.drew ?_) | (refine below_drewN ?_ _))) <;> (first | (simp; done) | (simp; omega) | omega)⟩
                all_goals rw [← HF.out]
                all_goals simp_all
                all_goals omega

end Go.Proofs.YtjlaadadbpffdaaGreatDoor

namespace Go.Plumb

theorem putI_word (neg : Bool) (q : Nat) (e : Int) (hu : q ≤ 9007199254740992) (he : -1074 ≤ e) (hn : e = -1074 ∨ 4503599627370496 ≤ q) :
    putI neg q e = (wordN neg (min ((e + 1074).toNat * 4503599627370496 + q) 9218868437227405312) : Int) := by
  obtain ⟨p, hp⟩ : ∃ p : Nat, e = (p : Int) - 1074 := ⟨(e + 1074).toNat, by omega⟩
  subst hp
  have e1 : ((p : Int) - 1074 + 1074).toNat = p := by omega
  rw [e1]
  unfold putI wordN infW signW
  rcases Nat.le_total (p * 4503599627370496 + q) 9218868437227405312 with h | h
  · rw [Nat.min_eq_left h]
    cases neg <;> simp only [if_true, if_false, Bool.false_eq_true] <;> (repeat' split) <;> omega
  · rw [Nat.min_eq_right h]
    cases neg <;> simp only [if_true, if_false, Bool.false_eq_true] <;> (repeat' split) <;> omega

theorem put_carry (neg : Bool) (q : Nat) (e : Int) (hq : q + 1 = 9007199254740992) (he : -1074 ≤ e) : putI neg 4503599627370496 (e + 1) = putI neg ((q + 1 : Nat) : Int) e := by
  rw [putI_word neg (q + 1) e (by omega) he (.inr (by omega))]
  have := putI_word neg 4503599627370496 (e + 1) (by omega) (by omega) (.inr (by omega))
  rw [show ((4503599627370496 : Nat) : Int) = 4503599627370496 from rfl] at this
  rw [this]
  have e2 : (e + 1 + 1074).toNat = (e + 1074).toNat + 1 := by omega
  rw [e2, hq]
  generalize (e + 1074).toNat = p
  have h : (p + 1) * 4503599627370496 + 4503599627370496 = p * 4503599627370496 + 9007199254740992 := by omega
  rw [h]

theorem halfB_nat (N j : Nat) : halfB (N : Int) (j + 1) = (N / 2 ^ j % 2 == 1) := by
  rw [half_succ]
  have e3 : (N : Int) / 2 ^ j % 2 = ((N / 2 ^ j % 2 : Nat) : Int) := by simp
  rw [e3, Bool.eq_iff_iff]; simp; omega
theorem restB_nat (N j : Nat) (more : Bool) : restB (N : Int) more (j + 1) = (more || N % 2 ^ j != 0) := by
  show (more || (N : Int) % 2 ^ j != 0) = _
  have e3 : (N : Int) % 2 ^ j = ((N % 2 ^ j : Nat) : Int) := by simp
  rw [e3]
  congr 1
  rw [Bool.eq_iff_iff]; simp; omega

/-- The rounding by the last digit and what fell before it. -/
theorem rne_half (N j : Nat) : rne N j = N / 2 ^ j + (if (halfB N j && (restB N false j || (N : Int) / 2 ^ j % 2 == 1)) = true then 1 else 0) := by
  cases j with
  | zero => simp [rne, halfB, Nat.mod_one]
  | succ j =>
    rw [halfB_nat, restB_nat]
    have e3 : ((N : Int) / 2 ^ (j + 1) % 2 == 1) = (N / 2 ^ (j + 1) % 2 == 1) := by
      have : (N : Int) / 2 ^ (j + 1) % 2 = ((N / 2 ^ (j + 1) % 2 : Nat) : Int) := by simp
      rw [this, Bool.eq_iff_iff]; simp; omega
    rw [e3]
    unfold rne
    congr 1
    have hm : N % 2 ^ (j + 1) = N % 2 ^ j + 2 ^ j * (N / 2 ^ j % 2) := Nat.mod_pow_succ
    rw [hm, Nat.pow_succ]
    have hr : N % 2 ^ j < 2 ^ j := Nat.mod_lt _ (Nat.two_pow_pos j)
    have hb : N / 2 ^ j % 2 < 2 := Nat.mod_lt _ (by decide)
    generalize N % 2 ^ j = r at *
    generalize N / 2 ^ j % 2 = b at *
    generalize N / (2 ^ j * 2) % 2 = q
    have hp : 0 < 2 ^ j := Nat.two_pow_pos j
    generalize 2 ^ j = p at *
    rcases (by omega : b = 0 ∨ b = 1) with rfl | rfl
    · rw [if_neg (by omega), if_neg (by simp)]
    · simp only [Nat.mul_one, beq_self_eq_true, Bool.true_and, Bool.false_or]
      by_cases h0 : r = 0
      · subst h0
        by_cases hq : q = 1
        · rw [if_pos (by omega), if_pos (by simp [hq])]
        · rw [if_neg (by omega), if_neg (by simp [hq])]
      · rw [if_pos (by omega), if_pos (by simp [h0])]

theorem rne_half_true (N j : Nat) : rne (2 * N + 1) (j + 1 + 1) = N / 2 ^ (j + 1) + (if halfB N (j + 1) = true then 1 else 0) := by
  rw [halfB_nat]
  have hdiv : (2 * N + 1) / 2 ^ (j + 1 + 1) = N / 2 ^ (j + 1) := by
    rw [Nat.pow_succ, Nat.mul_comm (2 ^ (j + 1)) 2, ← Nat.div_div_eq_div_mul]
    congr 1; omega
  have hmod : (2 * N + 1) % 2 ^ (j + 1 + 1) = 2 * (N % 2 ^ (j + 1)) + 1 := by
    rw [Nat.pow_succ, Nat.mul_comm (2 ^ (j + 1)) 2, Nat.mod_mul]
    have a1 : (2 * N + 1) % 2 = 1 := by omega
    have a2 : (2 * N + 1) / 2 = N := by omega
    rw [a1, a2]; omega
  unfold rne
  rw [hdiv, hmod]
  congr 1
  have hm : N % 2 ^ (j + 1) = N % 2 ^ j + 2 ^ j * (N / 2 ^ j % 2) := Nat.mod_pow_succ
  rw [hm, Nat.pow_succ, Nat.pow_succ]
  have hr : N % 2 ^ j < 2 ^ j := Nat.mod_lt _ (Nat.two_pow_pos j)
  have hb : N / 2 ^ j % 2 < 2 := Nat.mod_lt _ (by decide)
  generalize N % 2 ^ j = r at *
  generalize N / 2 ^ j % 2 = b at *
  generalize N / (2 ^ j * 2) % 2 = q
  have hp : 0 < 2 ^ j := Nat.two_pow_pos j
  generalize 2 ^ j = p at *
  rcases (by omega : b = 0 ∨ b = 1) with rfl | rfl
  · rw [if_neg (by omega), if_neg (by simp)]
  · rw [if_pos (by omega), if_pos (by simp)]

theorem lt_len (N d : Nat) (h : 2 ^ d ≤ N) : d < lenN N := by
  apply Nat.lt_of_not_le
  intro h'
  have := lt_lenN N
  have h2 : 2 ^ lenN N ≤ 2 ^ d := Nat.pow_le_pow_right (by decide) h'
  omega

/-- Both ends of the reference's loops: how many places fall away. -/
theorem drop_of_loops (N j : Nat) (y : Int) (h1 : ¬ (N < 4503599627370496 ∧ -1074 < y)) (h3 : N / 2 ^ j < 9007199254740992) (h4 : -1074 ≤ y + j)
    (h5 : 0 < j → (9007199254740992 ≤ N / 2 ^ (j - 1) ∨ y + (j - 1 : Nat) < -1074)) : dropN N y = j ∧ (y + j = -1074 ∨ 4503599627370496 ≤ N / 2 ^ j) := by
  have a1 : lenN N ≤ 53 + j := by
    apply lenN_le
    rw [Nat.pow_add]
    exact (Nat.div_lt_iff_lt_mul (Nat.two_pow_pos j)).1 h3
  cases j with
  | zero =>
    simp only [Nat.pow_zero, Nat.div_one] at *
    have a2 : 4503599627370496 ≤ N → 53 ≤ lenN N := fun h => lt_len N 52 h
    unfold dropN
    constructor
    · rcases Nat.lt_or_ge N 4503599627370496 with h | h
      · have : y ≤ -1074 := by omega
        omega
      · have := a2 h; omega
    · omega
  | succ j =>
    have a2 : 9007199254740992 ≤ N / 2 ^ j → 53 + j < lenN N := by
      intro h
      apply lt_len
      rw [Nat.pow_add]
      exact (Nat.le_div_iff_mul_le (Nat.two_pow_pos j)).1 h
    have h5 := h5 (by omega)
    simp only [Nat.add_sub_cancel] at h5
    have e : N / 2 ^ (j + 1) = N / 2 ^ j / 2 := by rw [Nat.pow_succ, Nat.div_div_eq_div_mul]
    unfold dropN
    constructor
    · rcases h5 with h | h
      · have := a2 h; omega
      · omega
    · rcases h5 with h | h
      · right; rw [e]; omega
      · left; omega

theorem ref_round (neg more : Bool) (n : Nat) (e : Int) (k j : Nat) (hm : more = true → (9007199254740992 ≤ n ∨ e ≤ -1075)) (hz : ¬ (n = 0 ∧ more = false))
    (h1 : ¬ ((n : Int) * 2 ^ k < 4503599627370496 ∧ -1074 < e - k)) (h2 : 0 < k → (n : Int) * 2 ^ k < 9007199254740992 ∧ -1074 ≤ e - k)
    (h3 : (n : Int) * 2 ^ k / 2 ^ j < 9007199254740992) (h4 : -1074 ≤ e - k + j) (h5 : 0 < j → (9007199254740992 ≤ (n : Int) * 2 ^ k / 2 ^ (j - 1) ∨ e - k + (j - 1 : Nat) < -1074)) :
    (if (halfB ((n : Int) * 2 ^ k) j && (restB ((n : Int) * 2 ^ k) more j || (n : Int) * 2 ^ k / 2 ^ j % 2 == 1)) = true then
        (if (n : Int) * 2 ^ k / 2 ^ j + 1 = 9007199254740992 then putI neg 4503599627370496 (e - k + j + 1) else putI neg ((n : Int) * 2 ^ k / 2 ^ j + 1) (e - k + j)) else putI neg ((n : Int) * 2 ^ k / 2 ^ j) (e - k + j)) =
      (if more then (roundN neg (2 * n + 1) (e - 1) : Int) else (roundN neg n e : Int)) := by
  have hN : (n : Int) * 2 ^ k = ((n * 2 ^ k : Nat) : Int) := by simp
  have hD : ∀ i : Nat, ((n * 2 ^ k : Nat) : Int) / 2 ^ i = ((n * 2 ^ k / 2 ^ i : Nat) : Int) := by intro i; simp
  rw [hN] at h1 h2 h3 h5 ⊢
  simp only [hD] at h3 h5
  have hdrop := drop_of_loops (n * 2 ^ k) j (e - k) (by omega) (by omega) (by omega) (by omega)
  have hk : more = true → k = 0 := by
    intro h
    rcases Nat.eq_zero_or_pos k with h0 | h0
    · exact h0
    · have a := h2 h0
      rcases hm h with b | b
      · have : n * 1 ≤ n * 2 ^ k := Nat.mul_le_mul_left _ (Nat.two_pow_pos k)
        omega
      · omega
  have h3' : n * 2 ^ k / 2 ^ j < 9007199254740992 := by omega
  have main : ∀ c : Bool, (if c = true then (if ((n * 2 ^ k : Nat) : Int) / 2 ^ j + 1 = 9007199254740992 then putI neg 4503599627370496 (e - k + j + 1) else putI neg (((n * 2 ^ k : Nat) : Int) / 2 ^ j + 1) (e - k + j)) else putI neg (((n * 2 ^ k : Nat) : Int) / 2 ^ j) (e - k + j)) =
      (wordN neg (min ((e - k + j + 1074).toNat * 4503599627370496 + (n * 2 ^ k / 2 ^ j + (if c = true then 1 else 0))) 9218868437227405312) : Int) := by
    intro c
    rw [hD]
    generalize n * 2 ^ k / 2 ^ j = q at *
    cases c
    · simp only [Bool.false_eq_true, if_false, Nat.add_zero]
      exact putI_word neg q _ (by omega) h4 hdrop.2
    · simp only [if_true]
      have e1 : (q : Int) + 1 = ((q + 1 : Nat) : Int) := by simp
      rw [e1]
      by_cases hc : ((q + 1 : Nat) : Int) = 9007199254740992
      · rw [if_pos hc, put_carry neg q _ (by omega) h4]
        exact putI_word neg (q + 1) _ (by omega) h4 (by omega)
      · rw [if_neg hc]
        exact putI_word neg (q + 1) _ (by omega) h4 (by omega)
  rw [main]
  cases more with
  | false =>
    simp only [Bool.false_eq_true, if_false]
    rw [← rne_half, ← roundN_scale neg n e k]
    unfold roundN
    have h0 : n * 2 ^ k ≠ 0 := by
      intro h
      rcases Nat.mul_eq_zero.1 h with h | h
      · exact hz ⟨h, rfl⟩
      · have := Nat.two_pow_pos k; omega
    rw [if_neg h0, hdrop.1]
    unfold keptN
    by_cases hj : j = 0
    · subst hj
      rw [rne_zero]; simp
    · rw [if_neg (by omega), Int.toNat_natCast]
  | true =>
    have hk0 := hk rfl
    subst hk0
    simp only [Nat.pow_zero, Nat.mul_one, Int.natCast_zero, Int.sub_zero] at *
    have hj : j ≠ 0 := by
      intro h; subst h
      rcases hm trivial with b | b
      · simp at h3'; omega
      · omega
    obtain ⟨i, rfl⟩ : ∃ i, j = i + 1 := ⟨j - 1, by omega⟩
    have hr : restB (n : Int) true (i + 1) = true := by rw [restB_nat]; rfl
    rw [hr, Bool.true_or, Bool.and_true, ← rne_half_true]
    have hl2 := lenN_odd n
    have hD2 : dropN (2 * n + 1) (e - 1) = ((i + 1 + 1 : Nat) : Int) := by
      have := hdrop.1
      unfold dropN at this ⊢; omega
    rw [if_pos trivial]
    unfold roundN keptN
    rw [if_neg (by omega), hD2, if_neg (by omega), Int.toNat_natCast]
    have e1 : (e - 1 + ((i + 1 + 1 : Nat) : Int) + 1074).toNat = (e + ((i + 1 : Nat) : Int) + 1074).toNat := by congr 1; omega
    rw [e1]

end Go.Plumb

namespace Go.Plumb
theorem roundW_zero (neg : Bool) (m e : Int) (more : Bool) (h1 : m < 18446744073709551616) (h : (m = 0 ∧ more = false) ∨ e < -3000) : roundW neg m e more = (wordN neg 0 : Int) := by
  unfold roundW
  rcases h with ⟨rfl, rfl⟩ | h
  · rfl
  · split
    · rw [roundN_small neg _ _ (Nat.lt_of_lt_of_le (show 2 * m.toNat + 1 < 36893488147419103232 by omega) (by decide)) (by omega)]
    · rw [roundN_small neg _ _ (Nat.lt_of_lt_of_le (show m.toNat < 36893488147419103232 by omega) (by decide)) (by omega)]
theorem roundW_inf (neg : Bool) (m e : Int) (more : Bool) (h0 : 0 ≤ m) (h : ¬ (m = 0 ∧ more = false)) (he : 3000 < e) : roundW neg m e more = (wordN neg 9218868437227405312 : Int) := by
  unfold roundW
  split
  · rw [roundN_big neg _ _ (by omega) (by omega)]
  · rename_i hm
    rw [roundN_big neg _ _ (by intro h'; apply h; exact ⟨by omega, by simpa using hm⟩) (by omega)]
theorem wordN_sign (neg : Bool) (r : Nat) : (wordN neg r : Int) = if neg = true then 9223372036854775808 + (r : Int) else (r : Int) := by unfold wordN; split <;> simp
end Go.Plumb
namespace Go.Proofs.YtjlaadadbpffdaaGreatDoor
open Go.RowKit Go.Plumb

set_option maxHeartbeats 1000000 in
theorem rround_zero (neg more : Bool) (m e : Int) (w : World) (h : (m = 0 ∧ more = false) ∨ e < -3000) :
    Calls Tryz.prog 142 #[.agg #[.bool neg, .int .u64 m, .int .i64 e], .bool more] w fun e' w' => e' = .returned (.int .u64 (wordN neg 0 : Int)) ∧ Below w.heap.size w w' := by
  have HW : Hid ((wordN neg 0 : Int) = if neg = true then 9223372036854775808 + ((0 : Nat) : Int) else ((0 : Nat) : Int)) := Lib.hid (wordN_sign neg 0)
  rcases h with ⟨rfl, rfl⟩ | h
  · go_enter Tryz.func142, Tryz.ntmps142
    go_wp2_with fail
    go_quiet (fail)
    go_wp2_with (go_at_call 166; (with_reducible refine (rsign_any _ _ _ (by omega) (by omega)).mono ?_); rintro e w' ⟨rfl, rfl⟩)
    all_goals go_ret
    all_goals exact ⟨ret_int (by first | rfl | (rw [HW.out]; simp_all)), by (repeat' (first | exact Below.refl _ _ | assumption | (refine below_alloc ?_ _) | (refine Below.setCell ?_ ?_ _) | (refine Below.drew ?_) | (refine below_drewN ?_ _))) <;> (first | (simp; done) | (simp; omega) | omega)⟩
  · generalize hzb : (m == 0) = zb
    cases zb <;> cases more
    all_goals
      go_enter Tryz.func142, Tryz.ntmps142
      go_wp2_with fail
      go_quiet (fail)
      go_wp2_with (go_at_call 166; (with_reducible refine (rsign_any _ _ _ (by omega) (by omega)).mono ?_); rintro e w' ⟨rfl, rfl⟩)
      all_goals go_ret
      all_goals exact ⟨ret_int (by first | rfl | (rw [HW.out]; simp_all)), by (repeat' (first | exact Below.refl _ _ | assumption | (refine below_alloc ?_ _) | (refine Below.setCell ?_ ?_ _) | (refine Below.drew ?_) | (refine below_drewN ?_ _))) <;> (first | (simp; done) | (simp; omega) | omega)⟩

set_option maxHeartbeats 1000000 in
theorem rround_inf (neg more : Bool) (m e : Int) (w : World) (h : ¬ (m = 0 ∧ more = false)) (he : 3000 < e) :
    Calls Tryz.prog 142 #[.agg #[.bool neg, .int .u64 m, .int .i64 e], .bool more] w fun e' w' => e' = .returned (.int .u64 (wordN neg 9218868437227405312 : Int)) ∧ Below w.heap.size w w' := by
  have HW : Hid ((wordN neg 9218868437227405312 : Int) = if neg = true then 9223372036854775808 + ((9218868437227405312 : Nat) : Int) else ((9218868437227405312 : Nat) : Int)) := Lib.hid (wordN_sign neg _)
  generalize hzb : (m == 0) = zb
  have hz : (zb = false) ∨ (zb = true ∧ more = true) := by
    cases zb <;> cases more <;> simp_all
  clear h
  rcases hz with rfl | ⟨rfl, rfl⟩
  all_goals
    go_enter Tryz.func142, Tryz.ntmps142
    go_wp2_with fail
    go_quiet (fail)
    go_wp2_with (go_at_call 166; (with_reducible refine (rsign_any _ _ _ (by omega) (by omega)).mono ?_); rintro e w' ⟨rfl, rfl⟩)
    all_goals go_ret
    all_goals exact ⟨ret_int (by first | rfl | (rw [HW.out]; simp_all)), by (repeat' (first | exact Below.refl _ _ | assumption | (refine below_alloc ?_ _) | (refine Below.setCell ?_ ?_ _) | (refine Below.drew ?_) | (refine below_drewN ?_ _))) <;> (first | (simp; done) | (simp; omega) | omega)⟩

/-- The reference's Round, at every input at which it may be asked. -/
theorem rround_any (neg : Bool) (m e : Int) (more : Bool) (w : World) (h0 : 0 ≤ m) (h1 : m < 18446744073709551616) (hb : roundBad m e more = false) :
    Calls Tryz.prog 142 #[.agg #[.bool neg, .int .u64 m, .int .i64 e], .bool more] w fun e' w' => e' = .returned (.int .u64 (roundW neg m e more)) ∧ Below w.heap.size w w' := by
  by_cases hz : (m = 0 ∧ more = false) ∨ e < -3000
  · rw [roundW_zero neg m e more h1 hz]
    exact rround_zero neg more m e w hz
  · by_cases he : 3000 < e
    · rw [roundW_inf neg m e more h0 (fun h => hz (.inl h)) he]
      exact rround_inf neg more m e w (fun h => hz (.inl h)) he
    · obtain ⟨n, rfl, hn⟩ := nat64 h0 h1
      have hm : more = true → (9007199254740992 ≤ n ∨ e ≤ -1075) := by
        intro h; subst h; simp [roundBad] at hb; omega
      have hz' : ¬ (n = 0 ∧ more = false) := fun h => hz (.inl ⟨by omega, h.2⟩)
      refine rround_core neg more _ n e w hn (by omega) (by omega) rfl ?_ _ (fun k j a1 a2 a3 a4 a5 => ?_)
      · cases more
        · left; simp; intro h; exact hz' ⟨by omega, rfl⟩
        · right; rfl
      · rw [ref_round neg more n e k j hm hz' a1 a2 a3 a4 a5]
        unfold roundW
        rw [Int.toNat_natCast]

theorem rroundf_any (neg : Bool) (m e : Int) (w : World) (h0 : 0 ≤ m) (h1 : m < 18446744073709551616) :
    Calls Tryz.prog 142 #[.agg #[.bool neg, .int .u64 m, .int .i64 e], .bool false] w fun e' w' => e' = .returned (.int .u64 (roundW neg m e false)) ∧ Below w.heap.size w w' := rround_any neg m e false w h0 h1 rfl

end Go.Proofs.YtjlaadadbpffdaaGreatDoor
