/-
  Walks of the reference's: put, Round (two loops).
-/
import Derived.Test.YtjlaadadbpffdaaGreatDoorBitsR
set_option linter.unusedSimpArgs false
set_option linter.unusedVariables false
namespace Go.Plumb
def putI (neg : Bool) (m e : Int) : Int :=
  (if m < 4503599627370496 then m else if e > 971 then infW else (e + 1075) * 4503599627370496 + m - 4503599627370496) + (if neg then signW else 0)
/-- The last digit that fell away behind j halvings; did one fall before it? -/
def halfB (x : Int) (j : Nat) : Bool := match j with | 0 => false | j + 1 => x / 2 ^ j % 2 == 1
def restB (x : Int) (more : Bool) (j : Nat) : Bool := match j with | 0 => more | j + 1 => more || x % 2 ^ j != 0

theorem half_succ (x : Int) (j : Nat) : halfB x (j + 1) = (x / 2 ^ j % 2 == 1) := rfl
theorem rest_succ (x : Int) (more : Bool) (j : Nat) (h0 : 0 ≤ x) : restB x more (j + 1) = (restB x more j || halfB x j) := by
  cases j with
  | zero => simp [restB, halfB]
  | succ j =>
    simp only [restB, halfB, Bool.or_assoc]
    congr 1
    obtain ⟨n, rfl⟩ := Int.eq_ofNat_of_zero_le h0
    have h : n % 2 ^ (j + 1) = n % 2 ^ j + 2 ^ j * (n / 2 ^ j % 2) := Nat.mod_pow_succ
    have e1 : (n : Int) % 2 ^ (j + 1) = ((n % 2 ^ (j + 1) : Nat) : Int) := by simp
    have e2 : (n : Int) % 2 ^ j = ((n % 2 ^ j : Nat) : Int) := by simp
    have e3 : (n : Int) / 2 ^ j % 2 = ((n / 2 ^ j % 2 : Nat) : Int) := by simp
    rw [e1, e2, e3, h]
    generalize n % 2 ^ j = a
    have hb : n / 2 ^ j % 2 < 2 := Nat.mod_lt _ (by decide)
    generalize n / 2 ^ j % 2 = b at hb
    have hp : 0 < 2 ^ j := Nat.two_pow_pos j
    generalize 2 ^ j = p at hp
    rcases (by omega : b = 0 ∨ b = 1) with rfl | rfl
    · simp
    · rw [Nat.mul_one]
      rw [Bool.eq_iff_iff]
      simp
      omega

theorem div_pow_succ (x : Int) (j : Nat) : x / 2 ^ j / 2 = x / 2 ^ (j + 1) := by
  rw [Int.ediv_ediv_of_nonneg (Int.le_of_lt (Int.pow_pos (by decide))), Int.pow_succ]

/-- How long the second loop can go. -/
theorem j_le (n : Nat) (y : Int) (j : Nat) (hn : n < 18446744073709551616) (hy : -3000 ≤ y) (h : 0 < j → (9007199254740992 ≤ (n : Int) / 2 ^ (j - 1) ∨ y + (j - 1 : Nat) < -1074)) : j ≤ 2000 := by
  by_cases h0 : j = 0
  · omega
  · rcases h (by omega) with h | h
    · apply Nat.le_of_not_lt
      intro hj
      have h1 : 2 ^ 64 ≤ 2 ^ (j - 1) := Nat.pow_le_pow_right (by decide) (by omega)
      have e : (n : Int) / 2 ^ (j - 1) = ((n / 2 ^ (j - 1) : Nat) : Int) := by simp
      rw [e, Nat.div_eq_of_lt (by omega)] at h
      omega
    · omega

end Go.Plumb
namespace Go.Proofs.YtjlaadadbpffdaaGreatDoor
open Go.RowKit Go.Plumb

theorem rput_any (neg : Bool) (m e : Int) (w : World) (h0 : 0 ≤ m) (h1 : m ≤ 9007199254740992) (h2 : -1074 ≤ e) (h3 : e ≤ 10000) :
    Calls Tryz.prog 167 #[.bool neg, .int .u64 m, .int .i64 e] w fun e' w' => e' = .returned (.int .u64 (putI neg m e)) ∧ w = w' := by
  go_enter Tryz.func167, Tryz.ntmps167
  go_wp2_with (go_at_call 166; (with_reducible refine (rsign_any _ _ _ ?_ ?_).mono ?_); rotate_left 2; (rintro e w' ⟨rfl, rfl⟩); rotate_left 1; (first | omega | (rw [IntKind.wrap_u64, IntKind.wrap_u64]; omega)); (first | omega | (rw [IntKind.wrap_u64, IntKind.wrap_u64]; omega)))
  all_goals go_ret
  all_goals refine ⟨ret_int ?_, rfl⟩
  all_goals simp only [putI, infW, signW]
  all_goals ((repeat' split) <;> first | omega | contradiction)

set_option maxHeartbeats 4000000 in
theorem rround_core (neg more zb : Bool) (n : Nat) (e : Int) (w : World) (hn : n < 18446744073709551616) (he0 : -3000 ≤ e) (he1 : e ≤ 3000) (hzb : ((n : Int) == 0) = zb) (hz : zb = false ∨ more = true) (R : Int)
    (hR : ∀ (k j : Nat) (h1 : ¬ ((n : Int) * 2 ^ k < 4503599627370496 ∧ -1074 < e - k)) (h2 : 0 < k → (n : Int) * 2 ^ k < 9007199254740992 ∧ -1074 ≤ e - k)
      (h3 : (n : Int) * 2 ^ k / 2 ^ j < 9007199254740992) (h4 : -1074 ≤ e - k + j) (h5 : 0 < j → (9007199254740992 ≤ (n : Int) * 2 ^ k / 2 ^ (j - 1) ∨ e - k + (j - 1 : Nat) < -1074)),
      (if (halfB ((n : Int) * 2 ^ k) j && (restB ((n : Int) * 2 ^ k) more j || (n : Int) * 2 ^ k / 2 ^ j % 2 == 1)) = true then
        (if (n : Int) * 2 ^ k / 2 ^ j + 1 = 9007199254740992 then putI neg 4503599627370496 (e - k + j + 1) else putI neg ((n : Int) * 2 ^ k / 2 ^ j + 1) (e - k + j)) else putI neg ((n : Int) * 2 ^ k / 2 ^ j) (e - k + j)) = R) :
    Calls Tryz.prog 142 #[.agg #[.bool neg, .int .u64 n, .int .i64 e], .bool more] w fun e' w' => e' = .returned (.int .u64 R) ∧ Below w.heap.size w w' := by
  have HR := Lib.hid hR
  clear hR
  have HN := Lib.hid hn
  have hz' : zb = false ∨ (zb = true ∧ more = true) := by cases zb <;> simp_all
  clear hz
  rcases hz' with rfl | ⟨rfl, rfl⟩
  all_goals
    go_enter Tryz.func142, Tryz.ntmps142
    go_wp2_with fail
    go_quiet (fail)
    go_wp2_with fail
    clear hzb hn
    go_loop [5, 6] (fun v5 v6 => ∃ (k : Nat) (x y : Int), v5 = .int .u64 x ∧ v6 = .int .i64 y ∧ x = (n : Int) * 2 ^ k ∧ y = e - k ∧ (0 < k → x < 9007199254740992 ∧ -1074 ≤ y) ∧ 0 ≤ x ∧ x < 18446744073709551616 ∧ -3000 ≤ y ∧ y ≤ 3000) (fun _ v6 => (intOf v6 + 1074).toNat)
    case atStart =>
      have := HN.out
      exact ⟨0, n, e, rfl, rfl, by simp, by simp, by omega, by omega, by omega, he0, he1⟩
    case round =>
      obtain ⟨k, x, y, rfl, rfl, hx, hy, hk, x0, x1, y0, y1⟩ := hrel
      have HX := Lib.hid hx
      have HY := Lib.hid hy
      have HK := Lib.hid hk
      clear hx hy hk
      by_cases hc : x < 4503599627370496 ∧ -1074 < y
      · obtain ⟨hc1, hc2⟩ := hc
        go_wp2_with fail
        go_round
        case rel => exact ⟨k + 1, _, _, rfl, rfl, by rw [HX.out, Int.pow_succ, Int.mul_assoc], by rw [HY.out]; omega, by omega, by omega, by omega, by omega, by omega⟩
        case measure => simp [intOf]; omega
      · have HC := Lib.hid hc
        have hc' : 4503599627370496 ≤ x ∨ (x < 4503599627370496 ∧ y ≤ -1074) := by omega
        clear hc
        rcases hc' with hc' | ⟨hc', hc''⟩
        all_goals
          go_wp2_with fail
          go_loop [5, 6, 7, 8] (fun v5 v6 v7 v8 => ∃ (j : Nat) (X Y : Int) (A B : Bool), v5 = .int .u64 X ∧ v6 = .int .i64 Y ∧ v7 = .bool A ∧ v8 = .bool B ∧ X = x / 2 ^ j ∧ Y = y + j ∧ A = halfB x j ∧ B = restB x _ j ∧ (0 < j → (9007199254740992 ≤ x / 2 ^ (j - 1) ∨ y + (j - 1 : Nat) < -1074)) ∧ 0 ≤ X ∧ X < 18446744073709551616 ∧ -3000 ≤ Y ∧ Y ≤ 6000) (fun v5 v6 _ _ => (intOf v5).toNat + (-1074 - intOf v6).toNat)
          case atStart =>
            exact ⟨0, x, y, _, _, rfl, rfl, rfl, rfl, by simp, by simp, rfl, rfl, by omega, by omega, by omega, by omega, by omega⟩
          case round =>
            obtain ⟨j, X, Y, A, B, rfl, rfl, rfl, rfl, hX, hY, hA, hB, hj, X0, X1, Y0, Y1⟩ := hrel
            have HXX := Lib.hid hX
            have HYY := Lib.hid hY
            have HA := Lib.hid hA
            have HB := Lib.hid hB
            have HJ := Lib.hid hj
            clear hX hY hA hB hj
            have hj2 : j ≤ 2000 := by
              have hxx : (x.toNat : Int) = x := by omega
              exact j_le x.toNat y j (by omega) y0 (by rw [hxx]; exact HJ.out)
            have hY2 : Y ≤ 5000 := by have := HYY.out; omega
            clear hj2 Y1
            by_cases hcc : 9007199254740992 ≤ X ∨ Y < -1074
            · have HCC := Lib.hid hcc
              have hcc' : 9007199254740992 ≤ X ∨ (X < 9007199254740992 ∧ Y < -1074) := by omega
              clear hcc
              have hrs : Hid (∀ mr, restB x mr (j + 1) = (restB x mr j || halfB x j)) := Lib.hid (fun mr => rest_succ x mr j x0)
              rcases hcc' with hcc' | ⟨hcc', hcc''⟩
              all_goals
                cases B
                all_goals
                  go_wp2_with fail
                  go_round
                  case rel => exact ⟨j + 1, _, _, _, _, rfl, rfl, rfl, rfl, by rw [HXX.out, div_pow_succ], by rw [HYY.out]; omega, by rw [half_succ, ← HXX.out], by rw [hrs.out, ← HB.out, ← HA.out]; rfl, fun _ => by rw [Nat.add_sub_cancel, ← HXX.out, ← HYY.out]; exact HCC.out, by omega, by omega, by omega, by omega⟩
                  case measure => simp [intOf]; omega
            · have HCC := Lib.hid hcc
              have hcc1 : X < 9007199254740992 := by omega
              have hcc2 : -1074 ≤ Y := by omega
              clear hcc
              have hfin : (if (A && (B || X % 2 == 1)) = true then (if X + 1 = 9007199254740992 then putI neg 4503599627370496 (Y + 1) else putI neg (X + 1) Y) else putI neg X Y) = R := by
                have := HR.out k j (by rw [← HX.out, ← HY.out]; exact HC.out) (by rw [← HX.out, ← HY.out]; exact HK.out) (by rw [← HX.out, ← HXX.out]; exact hcc1) (by rw [← HY.out, ← HYY.out]; exact hcc2) (by rw [← HX.out, ← HY.out]; exact HJ.out)
                rw [← HX.out, ← HY.out, ← HXX.out, ← HYY.out, ← HA.out, ← HB.out] at this
                exact this
              have HF := Lib.hid hfin
              clear hfin
              cases A <;> cases B
              all_goals
                go_wp2_with (go_at_call 167; (with_reducible refine (rput_any _ _ _ _ (by omega) (by omega) (by omega) (by omega)).mono ?_); rintro e w' ⟨rfl, rfl⟩)
                all_goals go_ret
                all_goals refine ⟨ret_int ?_, by (repeat' (first | exact Below.refl _ _ | assumption | (refine below_alloc ?_ _) | (refine Below.setCell ?_ ?_ _) | (refine Below.drew ?_) | (refine below_drewN ?_ _))) <;> (first | (simp; done) | (simp; omega) | omega)⟩
                all_goals rw [← HF.out]
                all_goals simp_all
                all_goals omega

end Go.Proofs.YtjlaadadbpffdaaGreatDoor
