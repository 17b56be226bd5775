/-
  BitsA, BitsB, BitsC: as one text.
-/
import Derived.Test.YtjlaadadbpffdaaGreatDoorRows
import Derived.Test.YtjlaadadbpffdaaGreatDoorBitsSpec
set_option linter.unusedSimpArgs false
set_option linter.unusedVariables false
namespace Go.Proofs.YtjlaadadbpffdaaGreatDoor
open Go.RowKit Go.Plumb

theorem ret_int {k : IntKind} {a b : Int} (h : a = b) : Ending.returned (.int k a) = .returned (.int k b) := by rw [h]

theorem ret_two {k l : IntKind} {a b c d : Int} (h : a = b) (h' : c = d) : Ending.returned (.tuple #[.int k a, .int l c]) = .returned (.tuple #[.int k b, .int l d]) := by rw [h, h']

set_option maxHeartbeats 400000 in
theorem class_any (x : Int) (w : World) (h0 : 0 ≤ x) (h1 : x < 18446744073709551616) :
    Calls Tryz.prog 150 #[.int .u64 x] w fun e w' => e = .returned (.int .i64 (classI x)) ∧ w = w' := by
  have e1 := and_2047 (x := x / 4503599627370496) (by omega) (by omega)
  have e2 := and_least h0 h1
  clear h0 h1
  go_enter Tryz.func150, Tryz.ntmps150
  go_wp2
  all_goals go_ret
  all_goals refine ⟨ret_int ?_, rfl⟩
  all_goals (clear e1 e2; unfold classI; simp_all)


theorem run_frombits (x : Int) (w : World) : Sem.run Tryz.prog (callFunc 24 #[.int .u64 x]) w = .ok (.value (.float .f64 x.toNat)) w := by kernel_rfl
theorem run_bits (b : Nat) (w : World) : Sem.run Tryz.prog (callFunc 20 #[.float .f64 b]) w = .ok (.value (.int .u64 b)) w := by kernel_rfl

theorem float_any (x : Int) (w : World) :
    Calls Tryz.prog 102 #[.int .u64 x] w fun e w' => e = .returned (.float .f64 x.toNat) ∧ w = w' := by
  have hr := run_frombits
  go_enter Tryz.func102, Tryz.ntmps102
  go_wp2
  go_ret
  exact ⟨rfl, rfl⟩

theorem of_any (b : Nat) (w : World) (hb : b < 18446744073709551616) :
    Calls Tryz.prog 93 #[.float .f64 b] w fun e w' => e = .returned (.int .u64 (oneI b)) ∧ w = w' := by
  have hr := run_bits
  have H := Lib.hid hb
  clear hb
  go_enter Tryz.func93, Tryz.ntmps93
  go_wp2
  · rename_i h
    go_ret
    refine ⟨ret_int ?_, rfl⟩
    rw [oneI, if_pos ((ne_self_iff b H.out).1 h)]; rfl
  · rename_i h
    go_ret
    refine ⟨ret_int ?_, rfl⟩
    have k : ¬ classI b = 5 := fun k => by rw [(ne_self_iff b H.out).2 k] at h; cases h
    rw [oneI, if_neg k]

theorem join_any (neg : Bool) (m e : Int) (w : World) (h0 : 0 ≤ m) (h1 : m ≤ 9007199254740992) (h2 : -1074 ≤ e) (h3 : e ≤ 10000):
    Calls Tryz.prog 153 #[.bool neg, .int .u64 m, .int .i64 e] w fun e' w' => e' = .returned (.int .u64 (joinI neg m e)) ∧ w = w' := by
  go_enter Tryz.func153, Tryz.ntmps153
  go_wp2
  all_goals go_ret
  all_goals refine ⟨ret_int ?_, rfl⟩
  all_goals subst_vars
  all_goals (first | rw [or_sign (by omega) (by omega)] | skip)
  all_goals (try rw [show IntKind.u64.wrap (m - 4503599627370496 + IntKind.u64.wrap ((e + 1075) * 4503599627370496)) = m - 4503599627370496 + (e + 1075) * 4503599627370496 by rw [IntKind.wrap_u64, IntKind.wrap_u64]; omega])
  all_goals simp only [joinI, infW, signW]
  all_goals ((repeat' split) <;> first | omega | contradiction)

end Go.Proofs.YtjlaadadbpffdaaGreatDoor

namespace Go.Proofs.YtjlaadadbpffdaaGreatDoor
open Go.RowKit Go.Plumb

set_option maxHeartbeats 400000 in
theorem negate_any (x : Int) (w : World) (h0 : 0 ≤ x) (h1 : x < 18446744073709551616) :
    Calls Tryz.prog 164 #[.int .u64 x] w fun e w' => e = .returned (.int .u64 (negI x)) ∧ w = w' := by
  have e1 := xor_sign h0 h1
  generalize hy : (x + 9223372036854775808) % 18446744073709551616 = y at e1
  have H := Lib.hid hy
  clear hy
  go_enter Tryz.func164, Tryz.ntmps164
  go_wp2_with (go_at_call 150; refine (class_any _ _ h0 h1).mono ?_; rintro e w' ⟨rfl, rfl⟩)
  all_goals go_ret
  all_goals refine ⟨ret_int ?_, rfl⟩
  all_goals (rw [negI, H.out]; simp_all [nanW])

set_option maxHeartbeats 800000 in
theorem parts_any (x : Int) (w : World) (h0 : 0 ≤ x) (h1 : x < 18446744073709551616) :
    Calls Tryz.prog 92 #[.int .u64 x] w fun e w' => e = .returned (.tuple #[.agg #[.bool (pNeg x), .int .u64 (pMan x), .int .i64 (pExp x)], .int .i64 (pErr x)]) ∧ Below w.heap.size w w' := by
  have e1 := and_2047 (x := x / 4503599627370496) (by omega) (by omega)
  have e2 := and_least h0 h1
  have e3 := or_least (x := x % 4503599627370496) (by omega) (by omega)
  have HC := Lib.hid (classI_cases x)
  go_enter Tryz.func92, Tryz.ntmps92
  go_wp2_with (go_at_call 150; refine (class_any _ _ h0 h1).mono ?_; rintro e w' ⟨rfl, rfl⟩)
  all_goals simp only [beq_iff_eq, beq_eq_false_iff_ne, ne_eq] at *
  all_goals exact bodyPost_ret (v := .tuple #[.agg #[.bool (pNeg x), .int .u64 (pMan x), .int .i64 (pExp x)], .int .i64 (pErr x)]) (by simp [results, Tryz.results92, go_sem, pNeg, pMan, pExp, pErr, *]; try (have hc := HC.out; omega)) rfl ⟨rfl, by (repeat' (first | exact Below.refl _ _ | assumption | (refine below_alloc ?_ _) | (refine Below.setCell ?_ ?_ _) | (refine Below.drew ?_) | (refine below_drewN ?_ _))) <;> (first | (simp; done) | (simp; omega) | omega)⟩

end Go.Proofs.YtjlaadadbpffdaaGreatDoor

namespace Go.Proofs.YtjlaadadbpffdaaGreatDoor
open Go.RowKit Go.Plumb

end Go.Proofs.YtjlaadadbpffdaaGreatDoor
