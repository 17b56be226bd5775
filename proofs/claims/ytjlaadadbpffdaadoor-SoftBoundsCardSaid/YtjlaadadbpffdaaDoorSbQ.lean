/-
  SfM, SfP, SfQ: as one text.
-/
import Derived.Test.YtjlaadadbpffdaaDoorSbA
import Derived.Laws.FloatArith
import Derived.Laws.NewFold
import Derived.Test.YtjlaadadbpffdaaDoorSbE
set_option linter.unusedSimpArgs false
set_option linter.unusedVariables false
namespace Go.Plumb
open Go.RowKit
/-- A NaN off the tape is a NaN. -/
theorem nan_cut (x y t : Nat) : classI (((Question.nanBits .f64 x y).cut t : Nat) : Int) = 5 ∧ (Question.nanBits .f64 x y).cut t < 18446744073709551616 := by
  have e : (Question.nanBits .f64 x y).cut t = (t % 2) * 9223372036854775808 + 9218868437227405312 + 1 + (t / 2) % 4503599627370495 := by
    show (t % 2) * 2 ^ 63 + 0x7ff0000000000000 + 1 + (t / 2) % (2 ^ 52 - 1) = _
    simp only [Nat.reducePow, Nat.reduceSub]
  rw [e, nan_iff]
  have h1 := Nat.mod_lt t (show 0 < 2 by decide)
  have h2 := Nat.mod_lt (t / 2) (show 0 < 4503599627370495 by decide)
  generalize t % 2 = p at *
  generalize t / 2 % 4503599627370495 = q at *
  constructor <;> omega
/-- What two words come to where all NaNs are one. -/
theorem one_mach {v r : Nat} (h : v = r ∨ (classI (v : Int) = 5 ∧ classI (r : Int) = 5)) : oneI (v : Int) = oneI (r : Int) := by
  rcases h with rfl | ⟨h1, h2⟩
  · rfl
  · unfold oneI
    rw [if_pos h1, if_pos h2]
theorem run_mach {P : Program} {op : BinOp} {x y r : Nat} (m : Option Nat) (hm : (match op with | .add => m = FloatKind.f64.format.add x y | .sub => m = FloatKind.f64.format.sub x y | .mul => m = FloatKind.f64.format.mul x y | .quo => m = FloatKind.f64.format.div x y | _ => False)) (hM : Mach m r) (hr : r < 18446744073709551616) (w : World) :
    ∃ v w', (∀ t, (binOp op t (.float .f64 x) (.float .f64 y)).run P w = .ok (.float .f64 v) w') ∧ v < 18446744073709551616 ∧ oneI (v : Int) = oneI (r : Int) ∧ Below w.heap.size w w' := by
  rcases hM with h | ⟨h, h5⟩
  · refine ⟨r, w, fun t => ?_, hr, rfl, Below.refl _ _⟩
    subst h
    cases op <;> first | (exact hm.elim) | skip
    all_goals simp only at hm
    all_goals simp [binOp, Op.floatArith, ← hm]
  · refine ⟨(Question.nanBits .f64 x y).cut (w.tape w.drawn (.nanBits .f64 x y)), w.drew, fun t => ?_, (nan_cut _ _ _).2, one_mach (.inr ⟨(nan_cut _ _ _).1, h5⟩), (Below.refl _ _).drew⟩
    subst h
    cases op <;> first | (exact hm.elim) | skip
    all_goals simp only at hm
    all_goals simp [binOp, Op.floatArith, ← hm, run_choose_drew, Question.forced, Result.andThen]
end Go.Plumb

namespace Go.Proofs.YtjlaadadbpffdaaDoor
open Go.RowKit Go.Plumb
theorem fl_mul {a b c : Nat} (h : FloatKind.f64.format.mul a b = some c) (t : TypeId) (w : World) : (binOp .mul t (.float .f64 a) (.float .f64 b)).run Tryd.prog w = .ok (.float .f64 c) w := by simp [binOp, Op.floatArith, h]
theorem fl_add {a b c : Nat} (h : FloatKind.f64.format.add a b = some c) (t : TypeId) (w : World) : (binOp .add t (.float .f64 a) (.float .f64 b)).run Tryd.prog w = .ok (.float .f64 c) w := by simp [binOp, Op.floatArith, h]
theorem fl_sub {a b c : Nat} (h : FloatKind.f64.format.sub a b = some c) (t : TypeId) (w : World) : (binOp .sub t (.float .f64 a) (.float .f64 b)).run Tryd.prog w = .ok (.float .f64 c) w := by simp [binOp, Op.floatArith, h]
theorem fl_quo {a b c : Nat} (h : FloatKind.f64.format.div a b = some c) (t : TypeId) (w : World) : (binOp .quo t (.float .f64 a) (.float .f64 b)).run Tryd.prog w = .ok (.float .f64 c) w := by simp [binOp, Op.floatArith, h]
theorem fl_neg {a b : Nat} (h : Op.negFloat .f64 a = b) (w : World) : (Op.unary .neg (.float .f64 a)).run Tryd.prog w = .ok (.float .f64 b) w := by subst h; rfl
theorem mabs_one (w : World) : Calls Tryd.prog 95 #[.float .f64 4607182418800017408] w fun z w' => z = .returned (.float .f64 4607182418800017408) ∧ w = w' := by
  have hr := run_frombits
  have hb := run_bits
  have e1 : bits .andNot .u64 ((4607182418800017408 : Nat) : Int) 9223372036854775808 = 4607182418800017408 := by decide
  go_enter Tryd.func95, Tryd.ntmps95
  go_wp2_with fail
  go_ret
  exact ⟨rfl, rfl⟩
theorem minf_one (w : World) : Calls Tryd.prog 70 #[.float .f64 4607182418800017408, .int .i64 0] w fun z w' => z = .returned (.bool false) ∧ w = w' := by
  have o1 : FloatKind.f64.format.order 4607182418800017408 9218868437227405311 = some Ordering.lt := by decide
  go_enter Tryd.func70, Tryd.ntmps70
  go_wp2_with fail
  refine (mabs_one _).mono ?_
  rintro z w' ⟨rfl, rfl⟩
  go_wp2_with fail
  go_ret
  exact ⟨rfl, rfl⟩
theorem mnan_one (w : World) : Calls Tryd.prog 71 #[.float .f64 4607182418800017408] w fun z w' => z = .returned (.bool false) ∧ w = w' := by
  have o1 : FloatKind.f64.format.order 4607182418800017408 4607182418800017408 = some Ordering.eq := by decide
  go_enter Tryd.func71, Tryd.ntmps71
  go_wp2_with fail
  go_ret
  exact ⟨rfl, rfl⟩
theorem mnorm_one (w : World) : Calls Tryd.prog 72 #[.float .f64 4607182418800017408] w fun z w' => z = .returned (.tuple #[.float .f64 4607182418800017408, .int .i64 0]) ∧ w = w' := by
  have o1 : FloatKind.f64.format.order 4607182418800017408 4503599627370496 = some Ordering.gt := by decide
  go_enter Tryd.func72, Tryd.ntmps72
  go_wp2_with fail
  refine (mabs_one _).mono ?_
  rintro z w' ⟨rfl, rfl⟩
  go_wp2_with fail
  go_ret2
  exact ⟨rfl, rfl⟩
theorem ldexpi52_any (w : World) : Calls Tryd.prog 46 #[.float .f64 4607182418800017408, .int .i64 (-52)] w fun z w' => z = .returned (.float .f64 4372995238176751616) ∧ w = w' := by
  have hr := run_frombits
  have hb := run_bits
  have a1 : bits .and .i64 1023 2047 = 1023 := by decide
  have a2 : bits .andNot .u64 4607182418800017408 9218868437227405312 = 0 := by decide
  have a3 : bits .or .u64 0 4372995238176751616 = 4372995238176751616 := by decide
  have m1 := fl_mul (a := 4607182418800017408) (b := 4372995238176751616) (c := 4372995238176751616) (by decide +kernel)
  have o1 : FloatKind.f64.format.order 4607182418800017408 0 = some Ordering.gt := by decide
  go_enter Tryd.func46, Tryd.ntmps46
  go_wp2_with fail
  refine (minf_one _).mono ?_
  rintro z w' ⟨rfl, rfl⟩
  go_wp2_with fail
  refine (mnan_one _).mono ?_
  rintro z w' ⟨rfl, rfl⟩
  go_wp2_with fail
  refine (mnorm_one _).mono ?_
  rintro z w' ⟨rfl, rfl⟩
  go_wp2_with fail
  go_ret
  exact ⟨rfl, rfl⟩
theorem ldexp52_any (w : World) : Calls Tryd.prog 19 #[.float .f64 4607182418800017408, .int .i64 (-52)] w fun z w' => z = .returned (.float .f64 4372995238176751616) ∧ w = w' := by
  go_enter Tryd.func19, Tryd.ntmps19
  go_wp2_with fail
  refine (ldexpi52_any _).mono ?_
  rintro z w' ⟨rfl, rfl⟩
  go_wp2_with fail
  go_ret
  exact ⟨rfl, rfl⟩
end Go.Proofs.YtjlaadadbpffdaaDoor

namespace Go.Plumb
theorem kn_one {m : Option Nat} {r c : Nat} (hM : Mach m r) (h : m = some c ∨ (m = none ∧ classI (c : Int) = 5)) : oneI (r : Int) = oneI (c : Int) := by
  rcases hM with h1 | ⟨h1, h5⟩
  · rcases h with h2 | ⟨h2, _⟩
    · rw [h1] at h2
      rw [Option.some.inj h2]
    · rw [h1] at h2; cases h2
  · rcases h with h2 | ⟨_, h6⟩
    · rw [h1] at h2; cases h2
    · unfold oneI
      rw [if_pos h5, if_pos h6]
end Go.Plumb
namespace Go.Proofs.YtjlaadadbpffdaaDoor
open Go.RowKit Go.Plumb
theorem num4_any (e : Int) (w : World) : Calls Tryd.prog 24 #[.int .i64 e] w fun x w' => x = .returned (.int .i64 e) ∧ w = w' := by
  go_enter Tryd.func24, Tryd.ntmps24
  go_wp2_with fail
  go_ret
  exact ⟨rfl, rfl⟩
theorem same4_any (x y : Nat) (h : oneI (x : Int) = oneI (y : Int)) (hx : x < 18446744073709551616) (hy : y < 18446744073709551616) (w : World) :
    Calls Tryd.prog 10 #[.float .f64 x, .float .f64 y] w fun z w' => z = .returned (.bool true) ∧ w = w' := by
  have hb := run_bits
  have R1 := fun w => rone_any (x : Int) w (by omega) (by omega)
  have R2 := fun w => rone_any (y : Int) w (by omega) (by omega)
  rw [h] at R1
  generalize oneI (y : Int) = o at R1 R2
  clear h hx hy
  go_enter Tryd.func10, Tryd.ntmps10
  go_wp2_with fail
  refine (R1 _).mono ?_
  rintro z w' ⟨rfl, rfl⟩
  go_wp2_with fail
  refine (R2 _).mono ?_
  rintro z w' ⟨rfl, rfl⟩
  go_wp2_with fail
  go_ret
  exact ⟨rfl, rfl⟩
theorem kn_add (x y c : Nat) (hx : x < 18446744073709551616) (hy : y < 18446744073709551616) (h : Ieee.double.add x y = some c ∨ (Ieee.double.add x y = none ∧ classI (c : Int) = 5)) :
    ∃ v, (∀ w, Tab w → Calls Tryd.prog 11 #[.float .f64 x, .float .f64 y] w fun r w' => r = .returned (.float .f64 v) ∧ Below w.heap.size w w') ∧ v < 18446744073709551616 ∧ oneI (v : Int) = oneI (c : Int) :=
  ⟨_, fun w hT => sAdd_any x y hT hx hy, addW_lt hx hy, kn_one (mach_add hx hy) h⟩
theorem kn_mul (x y c : Nat) (hx : x < 18446744073709551616) (hy : y < 18446744073709551616) (h : Ieee.double.mul x y = some c ∨ (Ieee.double.mul x y = none ∧ classI (c : Int) = 5)) :
    ∃ v, (∀ w, Tab w → Calls Tryd.prog 14 #[.float .f64 x, .float .f64 y] w fun r w' => r = .returned (.float .f64 v) ∧ Below w.heap.size w w') ∧ v < 18446744073709551616 ∧ oneI (v : Int) = oneI (c : Int) :=
  ⟨_, fun w hT => sMul_any x y hT hx hy, mulW_lt x y, kn_one (mach_mul hx hy) h⟩
theorem kn_div (x y c : Nat) (hx : x < 18446744073709551616) (hy : y < 18446744073709551616) (h : Ieee.double.div x y = some c ∨ (Ieee.double.div x y = none ∧ classI (c : Int) = 5)) :
    ∃ v, (∀ w, Tab w → Calls Tryd.prog 15 #[.float .f64 x, .float .f64 y] w fun r w' => r = .returned (.float .f64 v) ∧ Below w.heap.size w w') ∧ v < 18446744073709551616 ∧ oneI (v : Int) = oneI (c : Int) :=
  ⟨_, fun w hT => sDiv_any x y hT hx hy, divW_lt x y, kn_one (mach_div hx hy) h⟩
theorem kn_sqrt (x c : Nat) (hx : x < 18446744073709551616) (h : Ieee.double.sqrt x = some c ∨ (Ieee.double.sqrt x = none ∧ classI (c : Int) = 5)) :
    ∃ v, (∀ w, Tab w → Calls Tryd.prog 17 #[.float .f64 x] w fun r w' => r = .returned (.float .f64 v) ∧ Below w.heap.size w w') ∧ v < 18446744073709551616 ∧ oneI (v : Int) = oneI (c : Int) :=
  ⟨_, fun w hT => sSqrt_any x hT hx, sqrtW_lt hx, kn_one (mach_sqrt hx) h⟩
theorem kn_fma (x y z c : Nat) (hx : x < 18446744073709551616) (hy : y < 18446744073709551616) (hz : z < 18446744073709551616) (h : Ieee.double.fma x y z = some c ∨ (Ieee.double.fma x y z = none ∧ classI (c : Int) = 5)) :
    ∃ v, (∀ w, Tab w → Calls Tryd.prog 25 #[.float .f64 x, .float .f64 y, .float .f64 z] w fun r w' => r = .returned (.float .f64 v) ∧ Below w.heap.size w w') ∧ v < 18446744073709551616 ∧ oneI (v : Int) = oneI (c : Int) :=
  ⟨_, fun w hT => sFma_any x y z hT hx hy hz, fmaW_lt hz, kn_one (mach_fma hx hy hz) h⟩
set_option maxHeartbeats 8000000 in
set_option maxRecDepth 20000 in
theorem known4_any (w : World) (hT : Tab w) : Calls Tryd.prog 13 #[] w fun z w' => z = .returned (.bool true) ∧ Below w.heap.size w w' := by
  obtain ⟨v1, K1, T1, E1⟩ := kn_add 4607182418800017408 4368491638549381120 4607182418800017408 (by decide) (by decide) (.inl (by decide +kernel))
  have S1 := fun w => same4_any v1 4607182418800017408 E1 T1 (by decide) w
  obtain ⟨v2, K2, T2, E2⟩ := kn_add 4591870180066957722 4596373779694328218 4599075939470750516 (by decide) (by decide) (.inl (by decide +kernel))
  have S2 := fun w => same4_any v2 4599075939470750516 E2 T2 (by decide) w
  obtain ⟨v3, K3, T3, E3⟩ := kn_add 9223372036854775808 9223372036854775808 9223372036854775808 (by decide) (by decide) (.inl (by decide +kernel))
  have S3 := fun w => same4_any v3 9223372036854775808 E3 T3 (by decide) w
  obtain ⟨v4, K4, T4, E4⟩ := kn_add 4607182418800017408 13830554455654793216 0 (by decide) (by decide) (.inl (by decide +kernel))
  have S4 := fun w => same4_any v4 0 E4 T4 (by decide) w
  obtain ⟨v5, K5, T5, E5⟩ := kn_mul 7598952565167317594 7598952565167317594 9218868437227405312 (by decide) (by decide) (.inl (by decide +kernel))
  have S5 := fun w => same4_any v5 9218868437227405312 E5 T5 (by decide) w
  obtain ⟨v6, K6, T6, E6⟩ := kn_mul 9223372036854775808 4607182418800017408 9223372036854775808 (by decide) (by decide) (.inl (by decide +kernel))
  have S6 := fun w => same4_any v6 9223372036854775808 E6 T6 (by decide) w
  obtain ⟨v7, K7, T7, E7⟩ := kn_mul 0 9218868437227405312 9221120237041090561 (by decide) (by decide) (.inr ⟨by decide +kernel, by decide⟩)
  have S7 := fun w => same4_any v7 9221120237041090561 E7 T7 (by decide) w
  obtain ⟨v8, K8, T8, E8⟩ := kn_div 4607182418800017408 4613937818241073152 4599676419421066581 (by decide) (by decide) (.inl (by decide +kernel))
  have S8 := fun w => same4_any v8 4599676419421066581 E8 T8 (by decide) w
  obtain ⟨v9, K9, T9, E9⟩ := kn_div 4607182418800017408 9223372036854775808 18442240474082181120 (by decide) (by decide) (.inl (by decide +kernel))
  have S9 := fun w => same4_any v9 18442240474082181120 E9 T9 (by decide) w
  obtain ⟨v10, K10, T10, E10⟩ := kn_div 0 0 9221120237041090561 (by decide) (by decide) (.inr ⟨by decide +kernel, by decide⟩)
  have S10 := fun w => same4_any v10 9221120237041090561 E10 T10 (by decide) w
  obtain ⟨v11, K11, T11, E11⟩ := kn_sqrt 4611686018427387904 4609047870845172685 (by decide) (.inl (by decide +kernel))
  have S11 := fun w => same4_any v11 4609047870845172685 E11 T11 (by decide) w
  obtain ⟨v12, K12, T12, E12⟩ := kn_sqrt 9223372036854775808 9223372036854775808 (by decide) (.inl (by decide +kernel))
  have S12 := fun w => same4_any v12 9223372036854775808 E12 T12 (by decide) w
  obtain ⟨v13, K13, T13, E13⟩ := kn_sqrt 13830554455654793216 9221120237041090561 (by decide) (.inr ⟨by decide +kernel, by decide⟩)
  have S13 := fun w => same4_any v13 9221120237041090561 E13 T13 (by decide) w
  obtain ⟨v14, K14, T14, E14⟩ := kn_fma 4607182418800017409 4607182418800017406 13830554455654793216 13362180094408261632 (by decide) (by decide) (by decide) (.inl (by decide +kernel))
  have S14 := fun w => same4_any v14 13362180094408261632 E14 T14 (by decide) w
  have hQ := fun W (hb : Below w.heap.size w W) => sQuot_any (w := W.alloc (.cells #[.int .u64 1] 22)) false false 0 0 (hT.below (below_alloc hb _)) (num_one (W := W) (g := W.heap.size) (x := 1) (t := 22) rfl (by decide)) (Num.nil _) (by decide) (by decide) 0 9 (by unfold quoO; rw [if_pos ⟨by decide, by decide⟩]; rfl)
  have b1 := fl_quo (a := 4372995238176751616) (b := 4611686018427387904) (c := 4368491638549381120) (by decide +kernel)
  have b2 := fl_add (a := 4607182418800017408) (b := 4372995238176751616) (c := 4607182418800017409) (by decide +kernel)
  have b3 := fl_sub (a := 4607182418800017408) (b := 4372995238176751616) (c := 4607182418800017406) (by decide +kernel)
  have b4 := fl_mul (a := 13596367275031527424) (b := 4372995238176751616) (c := 13362180094408261632) (by decide +kernel)
  have b5 := fl_neg (a := 9218868437227405312) (b := 18442240474082181120) (by decide +kernel)
  have b6 := fl_neg (a := 4372995238176751616) (b := 13596367275031527424) (by decide +kernel)
  clear E1 T1 E2 T2 E3 T3 E4 T4 E5 T5 E6 T6 E7 T7 E8 T8 E9 T9 E10 T10 E11 T11 E12 T12 E13 T13 E14 T14
  go_enter Tryd.func13, Tryd.ntmps13
  go_wp2_with fail
  refine (copysign0_any _).mono ?_
  rintro z w' ⟨rfl, rfl⟩
  go_wp2_with fail
  refine (inf_any _).mono ?_
  rintro z w' ⟨rfl, rfl⟩
  go_wp2_with fail
  refine (ldexp52_any _).mono ?_
  rintro z w' ⟨rfl, rfl⟩
  go_wp2_with fail
  refine (hQ _ (by repeat' (first | exact Below.refl _ _ | refine below_alloc ?_ _))).mono ?_
  rintro z w1 ⟨rfl, hb⟩
  have HB1 := below_step (w0 := w) (by (repeat' (first | exact Below.refl _ _ | assumption | (refine below_alloc ?_ _) | (refine Below.setCell ?_ ?_ _) | (refine Below.drew ?_) | (refine below_drewN ?_ _))) <;> (first | (simp; done) | (simp; omega) | omega)) hb
  clear hb hQ
  go_wp2_with fail
  refine (K1 _ (hT.below HB1)).mono ?_
  rintro z w2 ⟨rfl, hb⟩
  have HB2 := below_step HB1 hb
  clear hb HB1 K1
  go_wp2_with fail
  refine (S1 _).mono ?_
  rintro z w' ⟨rfl, rfl⟩
  clear S1
  go_wp2_with fail
  refine (K2 _ (hT.below HB2)).mono ?_
  rintro z w3 ⟨rfl, hb⟩
  have HB3 := below_step HB2 hb
  clear hb HB2 K2
  go_wp2_with fail
  refine (S2 _).mono ?_
  rintro z w' ⟨rfl, rfl⟩
  clear S2
  go_wp2_with fail
  refine (K3 _ (hT.below HB3)).mono ?_
  rintro z w4 ⟨rfl, hb⟩
  have HB4 := below_step HB3 hb
  clear hb HB3 K3
  go_wp2_with fail
  refine (S3 _).mono ?_
  rintro z w' ⟨rfl, rfl⟩
  clear S3
  go_wp2_with fail
  refine (K4 _ (hT.below HB4)).mono ?_
  rintro z w5 ⟨rfl, hb⟩
  have HB5 := below_step HB4 hb
  clear hb HB4 K4
  go_wp2_with fail
  refine (S4 _).mono ?_
  rintro z w' ⟨rfl, rfl⟩
  clear S4
  go_wp2_with fail
  refine (K5 _ (hT.below HB5)).mono ?_
  rintro z w6 ⟨rfl, hb⟩
  have HB6 := below_step HB5 hb
  clear hb HB5 K5
  go_wp2_with fail
  refine (S5 _).mono ?_
  rintro z w' ⟨rfl, rfl⟩
  clear S5
  go_wp2_with fail
  refine (K6 _ (hT.below HB6)).mono ?_
  rintro z w7 ⟨rfl, hb⟩
  have HB7 := below_step HB6 hb
  clear hb HB6 K6
  go_wp2_with fail
  refine (S6 _).mono ?_
  rintro z w' ⟨rfl, rfl⟩
  clear S6
  go_wp2_with fail
  refine (K7 _ (hT.below HB7)).mono ?_
  rintro z w8 ⟨rfl, hb⟩
  have HB8 := below_step HB7 hb
  clear hb HB7 K7
  go_wp2_with fail
  refine (nan_any _).mono ?_
  rintro z w' ⟨rfl, rfl⟩
  go_wp2_with fail
  refine (S7 _).mono ?_
  rintro z w' ⟨rfl, rfl⟩
  clear S7
  go_wp2_with fail
  refine (K8 _ (hT.below HB8)).mono ?_
  rintro z w9 ⟨rfl, hb⟩
  have HB9 := below_step HB8 hb
  clear hb HB8 K8
  go_wp2_with fail
  refine (S8 _).mono ?_
  rintro z w' ⟨rfl, rfl⟩
  clear S8
  go_wp2_with fail
  refine (K9 _ (hT.below HB9)).mono ?_
  rintro z w10 ⟨rfl, hb⟩
  have HB10 := below_step HB9 hb
  clear hb HB9 K9
  go_wp2_with fail
  refine (S9 _).mono ?_
  rintro z w' ⟨rfl, rfl⟩
  clear S9
  go_wp2_with fail
  refine (K10 _ (hT.below HB10)).mono ?_
  rintro z w11 ⟨rfl, hb⟩
  have HB11 := below_step HB10 hb
  clear hb HB10 K10
  go_wp2_with fail
  refine (nan_any _).mono ?_
  rintro z w' ⟨rfl, rfl⟩
  go_wp2_with fail
  refine (S10 _).mono ?_
  rintro z w' ⟨rfl, rfl⟩
  clear S10
  go_wp2_with fail
  refine (K11 _ (hT.below HB11)).mono ?_
  rintro z w12 ⟨rfl, hb⟩
  have HB12 := below_step HB11 hb
  clear hb HB11 K11
  go_wp2_with fail
  refine (S11 _).mono ?_
  rintro z w' ⟨rfl, rfl⟩
  clear S11
  go_wp2_with fail
  refine (K12 _ (hT.below HB12)).mono ?_
  rintro z w13 ⟨rfl, hb⟩
  have HB13 := below_step HB12 hb
  clear hb HB12 K12
  go_wp2_with fail
  refine (S12 _).mono ?_
  rintro z w' ⟨rfl, rfl⟩
  clear S12
  go_wp2_with fail
  refine (K13 _ (hT.below HB13)).mono ?_
  rintro z w14 ⟨rfl, hb⟩
  have HB14 := below_step HB13 hb
  clear hb HB13 K13
  go_wp2_with fail
  refine (nan_any _).mono ?_
  rintro z w' ⟨rfl, rfl⟩
  go_wp2_with fail
  refine (S13 _).mono ?_
  rintro z w' ⟨rfl, rfl⟩
  clear S13
  go_wp2_with fail
  refine (K14 _ (hT.below HB14)).mono ?_
  rintro z w15 ⟨rfl, hb⟩
  have HB15 := below_step HB14 hb
  clear hb HB14 K14
  go_wp2_with fail
  refine (S14 _).mono ?_
  rintro z w' ⟨rfl, rfl⟩
  clear S14
  go_wp2_with fail
  refine (num4_any 9 _).mono ?_
  rintro z w' ⟨rfl, rfl⟩
  go_wp2_with fail
  go_ret
  exact ⟨rfl, HB15⟩
end Go.Proofs.YtjlaadadbpffdaaDoor
