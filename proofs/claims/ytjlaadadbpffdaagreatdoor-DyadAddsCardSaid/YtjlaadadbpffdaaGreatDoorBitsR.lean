/-
  Walks of the reference's: Class, Finite, One, Negate, Parts, sign, put, May, place, Compare, Steps.
-/
import Derived.Test.YtjlaadadbpffdaaGreatDoorBnF
set_option linter.unusedSimpArgs false
set_option linter.unusedVariables false
namespace Go.Proofs.YtjlaadadbpffdaaGreatDoor
open Go.RowKit Go.Plumb

set_option maxHeartbeats 400000 in
theorem rclass_any (x : Int) (w : World) (h0 : 0 ≤ x) (h1 : x < 18446744073709551616) :
    Calls Tryz.prog 96 #[.int .u64 x] w fun e w' => e = .returned (.int .i64 (classI x)) ∧ w = w' := by
  have e1 := and_2047 (x := x / 4503599627370496) (by omega) (by omega)
  have e2 := and_least h0 h1
  clear h0 h1
  go_enter Tryz.func96, Tryz.ntmps96
  go_wp2
  all_goals go_ret
  all_goals refine ⟨ret_int ?_, rfl⟩
  all_goals (clear e1 e2; unfold classI; (repeat' split) <;> first | rfl | (exfalso; simp_all; done) | (exfalso; simp_all; omega))

theorem rfinite_any (x : Int) (w : World) (h0 : 0 ≤ x) (h1 : x < 18446744073709551616) :
    Calls Tryz.prog 26 #[.int .u64 x] w fun e w' => e = .returned (.bool (decide (classI x ≤ 3))) ∧ w = w' := by
  go_enter Tryz.func26, Tryz.ntmps26
  go_wp2_with (go_at_call 96; refine (rclass_any _ _ h0 h1).mono ?_; rintro e w' ⟨rfl, rfl⟩)
  go_ret
  exact ⟨rfl, rfl⟩

theorem rone_any (x : Int) (w : World) (h0 : 0 ≤ x) (h1 : x < 18446744073709551616) :
    Calls Tryz.prog 122 #[.int .u64 x] w fun e w' => e = .returned (.int .u64 (oneI x)) ∧ w = w' := by
  go_enter Tryz.func122, Tryz.ntmps122
  go_wp2_with (go_at_call 96; refine (rclass_any _ _ h0 h1).mono ?_; rintro e w' ⟨rfl, rfl⟩)
  all_goals go_ret
  all_goals refine ⟨ret_int ?_, rfl⟩
  all_goals (rw [oneI]; simp_all [nanW])

set_option maxHeartbeats 800000 in
theorem rparts_any (x : Int) (w : World) (h0 : 0 ≤ x) (h1 : x < 18446744073709551616) (hf : classI x ≤ 3) :
    Calls Tryz.prog 103 #[.int .u64 x] w fun e w' => e = .returned (.agg #[.bool (pNeg x), .int .u64 (pMan x), .int .i64 (pExp x)]) ∧ Below w.heap.size w w' := by
  have e1 := and_2047 (x := x / 4503599627370496) (by omega) (by omega)
  have e2 := and_least h0 h1
  have e3 : (decide (9223372036854775808 ≤ x)) = pNeg x := by
    unfold pNeg
    simp only [hf, decide_true, Bool.true_and]
    rw [Bool.eq_iff_iff]; simp; omega
  have hcs : classI x = 1 ∨ classI x = 2 ∨ classI x = 3 := by have := classI_cases x; omega
  clear hf
  rcases hcs with hc | hc | hc
  all_goals
    go_enter Tryz.func103, Tryz.ntmps103
    go_wp2_with (go_at_call 96; refine (rclass_any _ _ h0 h1).mono ?_; rintro e w' ⟨rfl, rfl⟩)
    exact bodyPost_ret (v := .agg #[.bool (pNeg x), .int .u64 (pMan x), .int .i64 (pExp x)]) (by simp [results, Tryz.results103, go_sem, pMan, pExp, hc]; try omega) rfl ⟨rfl, by (repeat' (first | exact Below.refl _ _ | assumption | (refine below_alloc ?_ _) | (refine Below.setCell ?_ ?_ _) | (refine Below.drew ?_) | (refine below_drewN ?_ _))) <;> (first | (simp; done) | (simp; omega) | omega)⟩

theorem rsign_any (neg : Bool) (x : Int) (w : World) (h0 : 0 ≤ x) (h1 : x < 9223372036854775808) :
    Calls Tryz.prog 166 #[.bool neg, .int .u64 x] w fun e w' => e = .returned (.int .u64 (if neg = true then 9223372036854775808 + x else x)) ∧ w = w' := by
  cases neg
  all_goals
    go_enter Tryz.func166, Tryz.ntmps166
    go_wp2
    go_ret
    exact ⟨ret_int (by first | (simp; done) | (simp; omega) | omega), rfl⟩

end Go.Proofs.YtjlaadadbpffdaaGreatDoor
