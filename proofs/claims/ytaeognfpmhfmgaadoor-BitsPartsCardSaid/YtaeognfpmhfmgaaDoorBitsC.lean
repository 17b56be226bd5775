/-
  Walks: bits.place, at, next, Up, Down, Compare, Steps.
-/
import Derived.Test.YtaeognfpmhfmgaaDoorBitsB
set_option linter.unusedSimpArgs false
set_option linter.unusedVariables false
namespace Go.Proofs.YtaeognfpmhfmgaaDoor
open Go.RowKit Go.Plumb

set_option maxHeartbeats 400000 in
theorem turn_any (x n : Int) (a : Addr) (w : World) (h0 : 0 ≤ n) (h1 : n < 9223372036854775808) (ha : w.cell? a = some (.int .u64 x)) :
    Calls Tryd.prog 60 #[.int .i64 n, .pointer (some a)] w fun e w' => e = .returned (.int .i64 (turnI x n)) ∧ w = w' := by
  go_enter Tryd.func60, Tryd.ntmps60
  go_wp2
  all_goals go_ret
  all_goals refine ⟨ret_int ?_, rfl⟩
  all_goals (rw [turnI]; simp_all)

set_option maxHeartbeats 400000 in
theorem at_any (n : Int) (w : World) (h0 : -9223372036854775808 < n) (h1 : n < 9223372036854775808) :
    Calls Tryd.prog 61 #[.int .i64 n] w fun e w' => e = .returned (.int .u64 (atI n)) ∧ w = w' := by
  by_cases h : n < 0
  · have e1 := or_sign (x := -n) (by omega) (by omega)
    go_enter Tryd.func61, Tryd.ntmps61
    go_wp2
    go_ret
    exact ⟨ret_int (by rw [atI, if_pos h]), rfl⟩
  · go_enter Tryd.func61, Tryd.ntmps61
    go_wp2
    go_ret
    exact ⟨ret_int (by rw [atI, if_neg (by omega)]), rfl⟩

set_option maxHeartbeats 400000 in
theorem place_any (x : Int) (w : World) (h0 : 0 ≤ x) (h1 : x < 18446744073709551616) :
    Calls Tryd.prog 55 #[.int .u64 x] w fun e w' => e = .returned (.tuple #[.int .i64 (placeI x), .bool (classI x != 5)]) ∧ Below w.heap.size w w' := by
  have e1 := andNot_sign h0 h1
  go_enter Tryd.func55, Tryd.ntmps55
  go_wp2_with fail
  go_quiet (first | (go_at_call 60; exact quiet_eq (turn_any x (x % 9223372036854775808) _ _ (by omega) (by omega) (by simp))) | (go_at_call 39; exact quiet_eq (class_any x _ h0 h1)))
  go_wp2_with fail
  go_ret2
  exact ⟨rfl, by (repeat' (first | exact Below.refl _ _ | assumption | (refine below_alloc ?_ _) | (refine Below.setCell ?_ ?_ _) | (refine Below.drew ?_) | (refine below_drewN ?_ _))) <;> (first | (simp; done) | (simp; omega) | omega)⟩


set_option maxHeartbeats 800000 in
theorem compare_any (x y : Int) (w : World) (h0 : 0 ≤ x) (h1 : x < 18446744073709551616) (k0 : 0 ≤ y) (k1 : y < 18446744073709551616) :
    Calls Tryd.prog 31 #[.int .u64 x, .int .u64 y] w fun e w' => e = .returned (.tuple #[.int .i64 (compI x y), .int .i64 (compE x y)]) ∧ Below w.heap.size w w' := by
  go_enter Tryd.func31, Tryd.ntmps31
  go_wp2_with (go_at_call 55; (with_reducible refine (from_below (w0 := w) (place_any _ _ (by assumption) (by assumption)) ?_).mono ?_); rotate_left 1; (rintro e w' ⟨rfl, hb⟩; have hs := hb.size); rotate_left 1; ((repeat' (first | exact Below.refl _ _ | assumption | (refine below_alloc ?_ _) | (refine Below.setCell ?_ ?_ _) | (refine Below.drew ?_) | (refine below_drewN ?_ _))) <;> (first | (simp; done) | (simp; omega) | omega)))
  all_goals go_ret2
  all_goals refine ⟨ret_two ?_ ?_, by assumption⟩
  all_goals (first | rw [compI] | rw [compE])
  all_goals simp_all
  all_goals omega

set_option maxHeartbeats 800000 in
theorem steps_any (x y : Int) (w : World) (h0 : 0 ≤ x) (h1 : x < 18446744073709551616) (k0 : 0 ≤ y) (k1 : y < 18446744073709551616) :
    Calls Tryd.prog 32 #[.int .u64 x, .int .u64 y] w fun e w' => e = .returned (.tuple #[.int .u64 (stepsI x y), .int .i64 (compE x y)]) ∧ Below w.heap.size w w' := by
  have p1 := placeI_lo h0 h1
  have p2 := placeI_lo k0 k1
  go_enter Tryd.func32, Tryd.ntmps32
  go_wp2_with (go_at_call 55; (with_reducible refine (from_below (w0 := w) (place_any _ _ (by assumption) (by assumption)) ?_).mono ?_); rotate_left 1; (rintro e w' ⟨rfl, hb⟩; have hs := hb.size); rotate_left 1; ((repeat' (first | exact Below.refl _ _ | assumption | (refine below_alloc ?_ _) | (refine Below.setCell ?_ ?_ _) | (refine Below.drew ?_) | (refine below_drewN ?_ _))) <;> (first | (simp; done) | (simp; omega) | omega)))
  all_goals go_ret2
  all_goals refine ⟨ret_two ?_ ?_, by assumption⟩
  all_goals (first | rw [stepsI] | rw [compE])
  all_goals (try simp only [IntKind.wrap_u64])
  all_goals simp_all
  all_goals omega

set_option maxHeartbeats 800000 in
theorem next_nan (x y : Int) (w : World) (h0 : 0 ≤ x) (h1 : x < 18446744073709551616) (hn : classI x = 5) :
    Calls Tryd.prog 57 #[.int .u64 x, .int .i64 y] w fun e w' => e = .returned (.tuple #[.int .u64 (nextI x y), .int .i64 (nextE x)]) ∧ Below w.heap.size w w' := by
  have hc : (classI x != 5) = false := by simp [hn]
  have hx : nextI x y = 0 := by rw [nextI, if_pos hn]
  have hy : nextE x = 2 := by rw [nextE, if_pos hn]
  clear hn
  go_enter Tryd.func57, Tryd.ntmps57
  go_wp2_with (go_at_call 55; (with_reducible refine (from_below (w0 := w) (place_any _ _ (by assumption) (by assumption)) ?_).mono ?_); rotate_left 1; (rintro e w' ⟨rfl, hb⟩; have hs := hb.size); rotate_left 1; ((repeat' (first | exact Below.refl _ _ | assumption | (refine below_alloc ?_ _) | (refine Below.setCell ?_ ?_ _) | (refine Below.drew ?_) | (refine below_drewN ?_ _))) <;> (first | (simp; done) | (simp; omega) | omega)))
  go_ret2
  exact ⟨ret_two hx.symm hy.symm, by assumption⟩

set_option maxHeartbeats 800000 in
theorem next_any (x y : Int) (w : World) (h0 : 0 ≤ x) (h1 : x < 18446744073709551616) (k0 : y = 1 ∨ y = -1) :
    Calls Tryd.prog 57 #[.int .u64 x, .int .i64 y] w fun e w' => e = .returned (.tuple #[.int .u64 (nextI x y), .int .i64 (nextE x)]) ∧ Below w.heap.size w w' := by
  by_cases hn : classI x = 5
  · exact next_nan x y w h0 h1 hn
  have p1 := placeI_fin h0 h1 hn
  have hc : (classI x != 5) = true := by simpa using hn
  have hx : nextI x y = if placeI x = y * 9218868437227405312 then x else atI (placeI x + y) := by rw [nextI, if_neg hn]
  have hy : nextE x = 0 := by rw [nextE, if_neg hn]
  have HX := Lib.hid hx
  clear hx hn
  rcases k0 with rfl | rfl
  all_goals
    go_enter Tryd.func57, Tryd.ntmps57
    go_wp2_with (first | (go_at_call 55; (with_reducible refine (from_below (w0 := w) (place_any _ _ (by assumption) (by assumption)) ?_).mono ?_); rotate_left 1; (rintro e w' ⟨rfl, hb⟩; have hs := hb.size); rotate_left 1; ((repeat' (first | exact Below.refl _ _ | assumption | (refine below_alloc ?_ _) | (refine Below.setCell ?_ ?_ _) | (refine Below.drew ?_) | (refine below_drewN ?_ _))) <;> (first | (simp; done) | (simp; omega) | omega))) | (go_at_call 61; (with_reducible refine (at_any _ _ (by omega) (by omega)).mono ?_); rintro e w' ⟨rfl, rfl⟩))
    all_goals go_ret2
    all_goals refine ⟨ret_two ?_ ?_, by assumption⟩
    all_goals (try rw [HX.out])
    all_goals simp_all

theorem up_any (x : Int) (w : World) (h0 : 0 ≤ x) (h1 : x < 18446744073709551616) :
    Calls Tryd.prog 37 #[.int .u64 x] w fun e w' => e = .returned (.tuple #[.int .u64 (nextI x 1), .int .i64 (nextE x)]) ∧ Below w.heap.size w w' := by
  go_enter Tryd.func37, Tryd.ntmps37
  go_wp2_with (go_at_call 57; (with_reducible refine (from_below (w0 := w) (next_any _ _ _ (by assumption) (by assumption) (by omega)) ?_).mono ?_); rotate_left 1; (rintro e w' ⟨rfl, hb⟩; have hs := hb.size); rotate_left 1; ((repeat' (first | exact Below.refl _ _ | assumption | (refine below_alloc ?_ _) | (refine Below.setCell ?_ ?_ _) | (refine Below.drew ?_) | (refine below_drewN ?_ _))) <;> (first | (simp; done) | (simp; omega) | omega)))
  go_ret2
  exact ⟨rfl, by assumption⟩
theorem down_any (x : Int) (w : World) (h0 : 0 ≤ x) (h1 : x < 18446744073709551616) :
    Calls Tryd.prog 38 #[.int .u64 x] w fun e w' => e = .returned (.tuple #[.int .u64 (nextI x (-1)), .int .i64 (nextE x)]) ∧ Below w.heap.size w w' := by
  go_enter Tryd.func38, Tryd.ntmps38
  go_wp2_with (go_at_call 57; (with_reducible refine (from_below (w0 := w) (next_any _ _ _ (by assumption) (by assumption) (by omega)) ?_).mono ?_); rotate_left 1; (rintro e w' ⟨rfl, hb⟩; have hs := hb.size); rotate_left 1; ((repeat' (first | exact Below.refl _ _ | assumption | (refine below_alloc ?_ _) | (refine Below.setCell ?_ ?_ _) | (refine Below.drew ?_) | (refine below_drewN ?_ _))) <;> (first | (simp; done) | (simp; omega) | omega)))
  go_ret2
  exact ⟨rfl, by assumption⟩

end Go.Proofs.YtaeognfpmhfmgaaDoor
