/-
  Walks of the reference's: Class, Finite, One, Negate, Parts, sign, put, May, place, Compare, Steps.
-/
import Derived.Test.YtaeognfpmhfmgaaDoorBitsH
set_option linter.unusedSimpArgs false
set_option linter.unusedVariables false
namespace Go.Proofs.YtaeognfpmhfmgaaDoor
open Go.RowKit Go.Plumb

set_option maxHeartbeats 400000 in
theorem rclass_any (x : Int) (w : World) (h0 : 0 ≤ x) (h1 : x < 18446744073709551616) :
    Calls Tryd.prog 15 #[.int .u64 x] w fun e w' => e = .returned (.int .i64 (classI x)) ∧ w = w' := by
  have e1 := and_2047 (x := x / 4503599627370496) (by omega) (by omega)
  have e2 := and_least h0 h1
  clear h0 h1
  go_enter Tryd.func15, Tryd.ntmps15
  go_wp2
  all_goals go_ret
  all_goals refine ⟨ret_int ?_, rfl⟩
  all_goals (clear e1 e2; unfold classI; (repeat' split) <;> first | rfl | (exfalso; simp_all; done) | (exfalso; simp_all; omega))

theorem rfinite_any (x : Int) (w : World) (h0 : 0 ≤ x) (h1 : x < 18446744073709551616) :
    Calls Tryd.prog 21 #[.int .u64 x] w fun e w' => e = .returned (.bool (decide (classI x ≤ 3))) ∧ w = w' := by
  go_enter Tryd.func21, Tryd.ntmps21
  go_wp2_with (go_at_call 15; refine (rclass_any _ _ h0 h1).mono ?_; rintro e w' ⟨rfl, rfl⟩)
  go_ret
  exact ⟨rfl, rfl⟩

theorem rone_any (x : Int) (w : World) (h0 : 0 ≤ x) (h1 : x < 18446744073709551616) :
    Calls Tryd.prog 17 #[.int .u64 x] w fun e w' => e = .returned (.int .u64 (oneI x)) ∧ w = w' := by
  go_enter Tryd.func17, Tryd.ntmps17
  go_wp2_with (go_at_call 15; refine (rclass_any _ _ h0 h1).mono ?_; rintro e w' ⟨rfl, rfl⟩)
  all_goals go_ret
  all_goals refine ⟨ret_int ?_, rfl⟩
  all_goals (rw [oneI]; simp_all [nanW])

theorem rnegate_any (x : Int) (w : World) (h0 : 0 ≤ x) (h1 : x < 18446744073709551616) :
    Calls Tryd.prog 41 #[.int .u64 x] w fun e w' => e = .returned (.int .u64 (negI x)) ∧ w = w' := by
  have e1 := xor_sign h0 h1
  generalize hy : (x + 9223372036854775808) % 18446744073709551616 = y at e1
  have H := Lib.hid hy
  clear hy
  go_enter Tryd.func41, Tryd.ntmps41
  go_wp2_with (go_at_call 15; refine (rclass_any _ _ h0 h1).mono ?_; rintro e w' ⟨rfl, rfl⟩)
  all_goals go_ret
  all_goals refine ⟨ret_int ?_, rfl⟩
  all_goals (rw [negI, H.out]; simp_all [nanW])

set_option maxHeartbeats 800000 in
theorem rparts_any (x : Int) (w : World) (h0 : 0 ≤ x) (h1 : x < 18446744073709551616) (hf : classI x ≤ 3) :
    Calls Tryd.prog 25 #[.int .u64 x] w fun e w' => e = .returned (.agg #[.bool (pNeg x), .int .u64 (pMan x), .int .i64 (pExp x)]) ∧ Below w.heap.size w w' := by
  have e1 := and_2047 (x := x / 4503599627370496) (by omega) (by omega)
  have e2 := and_least h0 h1
  have e3 : (decide (9223372036854775808 ≤ x)) = pNeg x := by
    unfold pNeg
    simp only [hf, decide_true, Bool.true_and]
    rw [Bool.eq_iff_iff]; simp; omega
  have hcs : classI x = 1 ∨ classI x = 2 ∨ classI x = 3 := by have := classI_cases x; omega
  clear hf
  rcases hcs with hc | hc | hc
  all_goals
    go_enter Tryd.func25, Tryd.ntmps25
    go_wp2_with (go_at_call 15; refine (rclass_any _ _ h0 h1).mono ?_; rintro e w' ⟨rfl, rfl⟩)
    exact bodyPost_ret (v := .agg #[.bool (pNeg x), .int .u64 (pMan x), .int .i64 (pExp x)]) (by simp [results, Tryd.results25, go_sem, pMan, pExp, hc]; try omega) rfl ⟨rfl, by (repeat' (first | exact Below.refl _ _ | assumption | (refine below_alloc ?_ _) | (refine Below.setCell ?_ ?_ _) | (refine Below.drew ?_) | (refine below_drewN ?_ _))) <;> (first | (simp; done) | (simp; omega) | omega)⟩

theorem rsign_any (neg : Bool) (x : Int) (w : World) (h0 : 0 ≤ x) (h1 : x < 9223372036854775808) :
    Calls Tryd.prog 53 #[.bool neg, .int .u64 x] w fun e w' => e = .returned (.int .u64 (if neg = true then 9223372036854775808 + x else x)) ∧ w = w' := by
  cases neg
  all_goals
    go_enter Tryd.func53, Tryd.ntmps53
    go_wp2
    go_ret
    exact ⟨ret_int (by first | (simp; done) | (simp; omega) | omega), rfl⟩

theorem rmay_any (neg more : Bool) (m e : Int) (w : World) :
    Calls Tryd.prog 27 #[.agg #[.bool neg, .int .u64 m, .int .i64 e], .bool more] w fun e' w' => e' = .returned (.bool (!roundBad m e more)) ∧ Below w.heap.size w w' := by
  go_enter Tryd.func27, Tryd.ntmps27
  go_wp2
  all_goals go_ret
  all_goals refine ⟨?_, by (repeat' (first | exact Below.refl _ _ | assumption | (refine below_alloc ?_ _) | (refine Below.setCell ?_ ?_ _) | (refine Below.drew ?_) | (refine below_drewN ?_ _))) <;> (first | (simp; done) | (simp; omega) | omega)⟩
  all_goals unfold roundBad
  all_goals simp_all
  all_goals (rw [Bool.eq_iff_iff]; simp; omega)

/-- A word's place from the least infinity on. -/
theorem rplace_any (x : Int) (w : World) (h0 : 0 ≤ x) (h1 : x < 18446744073709551616) (hn : ¬ classI x = 5) :
    Calls Tryd.prog 56 #[.int .u64 x] w fun e w' => e = .returned (.int .u64 (9218868437227405312 + placeI x)) ∧ w = w' := by
  have hp : placeI x = if 9223372036854775808 ≤ x then 9223372036854775808 - x else x := by
    unfold placeI turnI; (repeat' split) <;> omega
  have hq := placeI_fin h0 h1 hn
  by_cases hs : 9223372036854775808 ≤ x
  · rw [if_pos hs] at hp
    rw [hp] at hq
    have e : 9218868437227405312 + placeI x = 9218868437227405312 - (x - 9223372036854775808) := by omega
    rw [e]
    clear hp e hn
    go_enter Tryd.func56, Tryd.ntmps56
    go_wp2
    go_ret
    exact ⟨rfl, rfl⟩
  · rw [if_neg hs] at hp
    rw [hp] at hq ⊢
    clear hp hn
    go_enter Tryd.func56, Tryd.ntmps56
    go_wp2
    go_ret
    exact ⟨rfl, rfl⟩

set_option maxHeartbeats 800000 in
theorem rcompare_any (x y : Int) (w : World) (h0 : 0 ≤ x) (h1 : x < 18446744073709551616) (k0 : 0 ≤ y) (k1 : y < 18446744073709551616) (hx : ¬ classI x = 5) (hy : ¬ classI y = 5) :
    Calls Tryd.prog 33 #[.int .u64 x, .int .u64 y] w fun e w' => e = .returned (.int .i64 (compI x y)) ∧ w = w' := by
  have HC : Hid (compI x y = if placeI x < placeI y then -1 else if placeI x > placeI y then 1 else 0) := by unfold compI; rw [if_neg (by simp [hx, hy])]; exact Lib.hid rfl
  have HX := Lib.hid hx
  have HY := Lib.hid hy
  clear hx hy
  go_enter Tryd.func33, Tryd.ntmps33
  go_wp2_with (go_at_call 56; (with_reducible refine (rplace_any _ _ (by assumption) (by assumption) (by first | exact HX.out | exact HY.out)).mono ?_); rintro e w' ⟨rfl, rfl⟩)
  all_goals go_ret
  all_goals refine ⟨ret_int ?_, rfl⟩
  all_goals rw [HC.out]
  all_goals ((repeat' split) <;> first | rfl | omega)

set_option maxHeartbeats 800000 in
theorem rsteps_any (x y : Int) (w : World) (h0 : 0 ≤ x) (h1 : x < 18446744073709551616) (k0 : 0 ≤ y) (k1 : y < 18446744073709551616) (hx : ¬ classI x = 5) (hy : ¬ classI y = 5) :
    Calls Tryd.prog 34 #[.int .u64 x, .int .u64 y] w fun e w' => e = .returned (.int .u64 (stepsI x y)) ∧ w = w' := by
  have HC : Hid (stepsI x y = if placeI x < placeI y then placeI y - placeI x else placeI x - placeI y) := by unfold stepsI; rw [if_neg (by simp [hx, hy])]; exact Lib.hid rfl
  have p1 := placeI_fin h0 h1 hx
  have p2 := placeI_fin k0 k1 hy
  have HX := Lib.hid hx
  have HY := Lib.hid hy
  clear hx hy
  go_enter Tryd.func34, Tryd.ntmps34
  go_wp2_with (go_at_call 56; (with_reducible refine (rplace_any _ _ (by assumption) (by assumption) (by first | exact HX.out | exact HY.out)).mono ?_); rintro e w' ⟨rfl, rfl⟩)
  all_goals go_ret
  all_goals refine ⟨ret_int ?_, rfl⟩
  all_goals rw [HC.out]
  all_goals ((repeat' split) <;> omega)

end Go.Proofs.YtaeognfpmhfmgaaDoor
