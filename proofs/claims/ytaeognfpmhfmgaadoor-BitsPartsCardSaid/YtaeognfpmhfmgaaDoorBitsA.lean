/-
  Walks: bits.Class, Of, Float, Negate, Parts, join, finite.
-/
import Derived.Test.YtaeognfpmhfmgaaDoorRows
import Derived.Test.YtaeognfpmhfmgaaDoorBitsSpec
set_option linter.unusedSimpArgs false
set_option linter.unusedVariables false
namespace Go.Proofs.YtaeognfpmhfmgaaDoor
open Go.RowKit Go.Plumb

theorem ret_int {k : IntKind} {a b : Int} (h : a = b) : Ending.returned (.int k a) = .returned (.int k b) := by rw [h]

theorem ret_two {k l : IntKind} {a b c d : Int} (h : a = b) (h' : c = d) : Ending.returned (.tuple #[.int k a, .int l c]) = .returned (.tuple #[.int k b, .int l d]) := by rw [h, h']

set_option maxHeartbeats 400000 in
theorem class_any (x : Int) (w : World) (h0 : 0 ≤ x) (h1 : x < 18446744073709551616) :
    Calls Tryd.prog 39 #[.int .u64 x] w fun e w' => e = .returned (.int .i64 (classI x)) ∧ w = w' := by
  have e1 := and_2047 (x := x / 4503599627370496) (by omega) (by omega)
  have e2 := and_least h0 h1
  clear h0 h1
  go_enter Tryd.func39, Tryd.ntmps39
  go_wp2
  all_goals go_ret
  all_goals refine ⟨ret_int ?_, rfl⟩
  all_goals (clear e1 e2; unfold classI; simp_all)


theorem run_frombits (x : Int) (w : World) : Sem.run Tryd.prog (callFunc 47 #[.int .u64 x]) w = .ok (.value (.float .f64 x.toNat)) w := by kernel_rfl
theorem run_bits (b : Nat) (w : World) : Sem.run Tryd.prog (callFunc 18 #[.float .f64 b]) w = .ok (.value (.int .u64 b)) w := by kernel_rfl

theorem float_any (x : Int) (w : World) :
    Calls Tryd.prog 14 #[.int .u64 x] w fun e w' => e = .returned (.float .f64 x.toNat) ∧ w = w' := by
  have hr := run_frombits
  go_enter Tryd.func14, Tryd.ntmps14
  go_wp2
  go_ret
  exact ⟨rfl, rfl⟩

theorem of_any (b : Nat) (w : World) (hb : b < 18446744073709551616) :
    Calls Tryd.prog 16 #[.float .f64 b] w fun e w' => e = .returned (.int .u64 (oneI b)) ∧ w = w' := by
  have hr := run_bits
  have H := Lib.hid hb
  clear hb
  go_enter Tryd.func16, Tryd.ntmps16
  go_wp2
  · rename_i h
    go_ret
    refine ⟨ret_int ?_, rfl⟩
    rw [oneI, if_pos ((ne_self_iff b H.out).1 h)]; rfl
  · rename_i h
    go_ret
    refine ⟨ret_int ?_, rfl⟩
    have k : ¬ classI b = 5 := fun k => by rw [(ne_self_iff b H.out).2 k] at h; cases h
    rw [oneI, if_neg k]

theorem join_any (neg : Bool) (m e : Int) (w : World) (h0 : 0 ≤ m) (h1 : m ≤ 9007199254740992) (h2 : -1074 ≤ e) (h3 : e ≤ 10000):
    Calls Tryd.prog 49 #[.bool neg, .int .u64 m, .int .i64 e] w fun e' w' => e' = .returned (.int .u64 (joinI neg m e)) ∧ w = w' := by
  go_enter Tryd.func49, Tryd.ntmps49
  go_wp2
  all_goals go_ret
  all_goals refine ⟨ret_int ?_, rfl⟩
  all_goals subst_vars
  all_goals (first | rw [or_sign (by omega) (by omega)] | skip)
  all_goals (try rw [show IntKind.u64.wrap (m - 4503599627370496 + IntKind.u64.wrap ((e + 1075) * 4503599627370496)) = m - 4503599627370496 + (e + 1075) * 4503599627370496 by rw [IntKind.wrap_u64, IntKind.wrap_u64]; omega])
  all_goals simp only [joinI, infW, signW]
  all_goals ((repeat' split) <;> first | omega | contradiction)

end Go.Proofs.YtaeognfpmhfmgaaDoor
