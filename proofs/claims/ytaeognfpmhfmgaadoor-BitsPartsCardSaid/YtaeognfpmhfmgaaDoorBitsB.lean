/-
  Walks: bits.Negate, Parts.
-/
import Derived.Test.YtaeognfpmhfmgaaDoorBitsA
set_option linter.unusedSimpArgs false
set_option linter.unusedVariables false
namespace Go.Proofs.YtaeognfpmhfmgaaDoor
open Go.RowKit Go.Plumb

set_option maxHeartbeats 400000 in
theorem negate_any (x : Int) (w : World) (h0 : 0 ≤ x) (h1 : x < 18446744073709551616) :
    Calls Tryd.prog 40 #[.int .u64 x] w fun e w' => e = .returned (.int .u64 (negI x)) ∧ w = w' := by
  have e1 := xor_sign h0 h1
  generalize hy : (x + 9223372036854775808) % 18446744073709551616 = y at e1
  have H := Lib.hid hy
  clear hy
  go_enter Tryd.func40, Tryd.ntmps40
  go_wp2_with (go_at_call 39; refine (class_any _ _ h0 h1).mono ?_; rintro e w' ⟨rfl, rfl⟩)
  all_goals go_ret
  all_goals refine ⟨ret_int ?_, rfl⟩
  all_goals (rw [negI, H.out]; simp_all [nanW])

set_option maxHeartbeats 800000 in
theorem parts_any (x : Int) (w : World) (h0 : 0 ≤ x) (h1 : x < 18446744073709551616) :
    Calls Tryd.prog 20 #[.int .u64 x] w fun e w' => e = .returned (.tuple #[.agg #[.bool (pNeg x), .int .u64 (pMan x), .int .i64 (pExp x)], .int .i64 (pErr x)]) ∧ Below w.heap.size w w' := by
  have e1 := and_2047 (x := x / 4503599627370496) (by omega) (by omega)
  have e2 := and_least h0 h1
  have e3 := or_least (x := x % 4503599627370496) (by omega) (by omega)
  have HC := Lib.hid (classI_cases x)
  go_enter Tryd.func20, Tryd.ntmps20
  go_wp2_with (go_at_call 39; refine (class_any _ _ h0 h1).mono ?_; rintro e w' ⟨rfl, rfl⟩)
  all_goals simp only [beq_iff_eq, beq_eq_false_iff_ne, ne_eq] at *
  all_goals exact bodyPost_ret (v := .tuple #[.agg #[.bool (pNeg x), .int .u64 (pMan x), .int .i64 (pExp x)], .int .i64 (pErr x)]) (by simp [results, Tryd.results20, go_sem, pNeg, pMan, pExp, pErr, *]; try (have hc := HC.out; omega)) rfl ⟨rfl, by (repeat' (first | exact Below.refl _ _ | assumption | (refine below_alloc ?_ _) | (refine Below.setCell ?_ ?_ _) | (refine Below.drew ?_) | (refine below_drewN ?_ _))) <;> (first | (simp; done) | (simp; omega) | omega)⟩

end Go.Proofs.YtaeognfpmhfmgaaDoor
