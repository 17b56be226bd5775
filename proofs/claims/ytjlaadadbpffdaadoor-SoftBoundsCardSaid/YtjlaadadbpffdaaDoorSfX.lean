/-
  Package soft: numbers that are too long; math's numbers at which SoftBounds calls.
-/
import Derived.Test.YtjlaadadbpffdaaDoorSfWb
set_option linter.unusedSimpArgs false
set_option linter.unusedVariables false
namespace Go.Plumb
theorem isqN_sq (x : Nat) : isqN (x * x) = x := isqN_unique (x * x) x (Nat.le_refl _) (by rw [Nat.add_mul, Nat.mul_add]; omega)
theorem root_2046 : rootO ⟨false, 1, 2046⟩ = (9214364837600034816, 0) := by
  have h : isqN (1 * 2 ^ 130) = 36893488147419103232 := by
    rw [show 1 * 2 ^ 130 = 36893488147419103232 * 36893488147419103232 by decide +kernel]
    exact isqN_sq _
  unfold rootO
  rw [if_pos (by decide), if_neg (by decide), if_neg (by decide)]
  have e : rootD ⟨false, 1, 2046⟩ = 9214364837600034816 := by
    unfold rootD
    simp only
    rw [show 130 + ((2046 : Int) % 2).toNat = 130 by decide]
    unfold rootR
    rw [h]
    decide +kernel
  rw [e]
theorem root_neg1 : rootO ⟨true, 1, 0⟩ = (0, 2) := by
  unfold rootO
  rw [if_pos (by decide), if_neg (by decide), if_pos rfl]
theorem quo_low : quoO ⟨false, 1, -262144⟩ ⟨false, 1, 262144⟩ = (0, 0) := by
  unfold quoO
  rw [if_pos (by decide), if_neg (by decide), if_neg (by decide)]
  have e : quoD ⟨false, 1, -262144⟩ ⟨false, 1, 262144⟩ = 0 := by
    unfold quoD quoR
    decide +kernel
  rw [e]
theorem quo_high : quoO ⟨true, 1, 262144⟩ ⟨false, 1, -262144⟩ = (18442240474082181120, 0) := by
  unfold quoO
  rw [if_pos (by decide), if_neg (by decide), if_neg (by decide)]
  have e : quoD ⟨true, 1, 262144⟩ ⟨false, 1, -262144⟩ = 18442240474082181120 := by
    unfold quoD quoR
    decide +kernel
  rw [e]
theorem opn_odd {s : Bool} {V : Nat} {e : Int} (h : V % 2 = 1) : opnD ⟨s, V, e⟩ = ⟨s, V, e⟩ := by
  unfold opnD
  rw [nrm_o h]
  split <;> rfl
/-- The number 2 to the 131072, and 1. -/
theorem big_num (q : Nat) (hq : 0 < q) : (18446744073709551616 ^ q + 1) % 2 = 1 ∧ q < (limbs (18446744073709551616 ^ q + 1)).length := by
  constructor
  · obtain ⟨p, rfl⟩ : ∃ p, q = p + 1 := ⟨q - 1, by omega⟩
    rw [Nat.pow_succ]
    omega
  · apply Nat.lt_of_not_le
    intro hle
    have h1 := lt_pow_length (18446744073709551616 ^ q + 1)
    have h2 : 18446744073709551616 ^ (limbs (18446744073709551616 ^ q + 1)).length ≤ 18446744073709551616 ^ q := Nat.pow_le_pow_right (by decide) hle
    omega
theorem big_val (q : Nat) (hq : 0 < q) : valL (((List.replicate (q + 1) 0).set q 1).set 0 1) = 18446744073709551616 ^ q + 1 := by
  have h1 := valL_set (List.replicate (q + 1) 0) q 1 (by simp)
  rw [valL_replicate] at h1
  have e1 : (List.replicate (q + 1) 0).getD q 0 = 0 := by simp [List.getD, List.getElem?_replicate]
  rw [e1] at h1
  have h2 := valL_set ((List.replicate (q + 1) 0).set q 1) 0 1 (by simp)
  have e2 : ((List.replicate (q + 1) 0).set q 1).getD 0 0 = 0 := by
    rw [List.getD, List.getElem?_set_ne (by omega)]
    simp [List.getElem?_replicate]
  rw [e2, Nat.pow_zero] at h2
  omega
end Go.Plumb
namespace Go.Proofs.YtjlaadadbpffdaaDoor
open Go.RowKit Go.Plumb
theorem inf_neg (w : World) : Calls Tryd.prog 23 #[.int .i64 (-1)] w fun z w' => z = .returned (.float .f64 18442240474082181120) ∧ w = w' := by
  have hr := run_frombits
  go_enter Tryd.func23, Tryd.ntmps23
  go_wp2_with fail
  go_ret
  exact ⟨rfl, rfl⟩
theorem ldexpiL_any (w : World) : Calls Tryd.prog 46 #[.float .f64 4607182418800017408, .int .i64 (-1074)] w fun z w' => z = .returned (.float .f64 1) ∧ w = w' := by
  have hr := run_frombits
  have hb := run_bits
  have a1 : bits .and .i64 1023 2047 = 1023 := by decide
  have a2 : bits .andNot .u64 4607182418800017408 9218868437227405312 = 0 := by decide
  have a3 : bits .or .u64 0 9007199254740992 = 9007199254740992 := by decide
  have m1 := fl_mul (a := 4368491638549381120) (b := 9007199254740992) (c := 1) (by decide +kernel)
  have o1 : FloatKind.f64.format.order 4607182418800017408 0 = some Ordering.gt := by decide
  go_enter Tryd.func46, Tryd.ntmps46
  go_wp2_with fail
  refine (minf_one _).mono ?_
  rintro z w' ⟨rfl, rfl⟩
  go_wp2_with fail
  refine (mnan_one _).mono ?_
  rintro z w' ⟨rfl, rfl⟩
  go_wp2_with fail
  refine (mnorm_one _).mono ?_
  rintro z w' ⟨rfl, rfl⟩
  go_wp2_with fail
  go_ret
  exact ⟨rfl, rfl⟩
theorem ldexpL_any (w : World) : Calls Tryd.prog 19 #[.float .f64 4607182418800017408, .int .i64 (-1074)] w fun z w' => z = .returned (.float .f64 1) ∧ w = w' := by
  go_enter Tryd.func19, Tryd.ntmps19
  go_wp2_with fail
  refine (ldexpiL_any _).mono ?_
  rintro z w' ⟨rfl, rfl⟩
  go_wp2_with fail
  go_ret
  exact ⟨rfl, rfl⟩
theorem ldexpiH_any (w : World) : Calls Tryd.prog 46 #[.float .f64 4607182418800017408, .int .i64 1023] w fun z w' => z = .returned (.float .f64 9214364837600034816) ∧ w = w' := by
  have hr := run_frombits
  have hb := run_bits
  have a1 : bits .and .i64 1023 2047 = 1023 := by decide
  have a2 : bits .andNot .u64 4607182418800017408 9218868437227405312 = 0 := by decide
  have a3 : bits .or .u64 0 9214364837600034816 = 9214364837600034816 := by decide
  have m1 := fl_mul (a := 4607182418800017408) (b := 9214364837600034816) (c := 9214364837600034816) (by decide +kernel)
  have o1 : FloatKind.f64.format.order 4607182418800017408 0 = some Ordering.gt := by decide
  go_enter Tryd.func46, Tryd.ntmps46
  go_wp2_with fail
  refine (minf_one _).mono ?_
  rintro z w' ⟨rfl, rfl⟩
  go_wp2_with fail
  refine (mnan_one _).mono ?_
  rintro z w' ⟨rfl, rfl⟩
  go_wp2_with fail
  refine (mnorm_one _).mono ?_
  rintro z w' ⟨rfl, rfl⟩
  go_wp2_with fail
  go_ret
  exact ⟨rfl, rfl⟩
theorem ldexpH_any (w : World) : Calls Tryd.prog 19 #[.float .f64 4607182418800017408, .int .i64 1023] w fun z w' => z = .returned (.float .f64 9214364837600034816) ∧ w = w' := by
  go_enter Tryd.func19, Tryd.ntmps19
  go_wp2_with fail
  refine (ldexpiH_any _).mono ?_
  rintro z w' ⟨rfl, rfl⟩
  go_wp2_with fail
  go_ret
  exact ⟨rfl, rfl⟩
section
variable {w : World} {a b : Option Addr} {n c m d : Nat} {l k : List Nat}
theorem slong_true (s : Bool) (e : Int) (h1 : Num w a n c l) (hl : l.length ≤ 4000) (hbig : 2048 < (limbs (valL l)).length) :
    Calls Tryd.prog 49 #[.agg #[.bool s, .slice a n c, .int .i64 e]] w fun z w' => z = .returned (.bool true) ∧ Below w.heap.size w w' := by
  have X0 := Boxed3.new w s a n c e 37 (g := w.heap.size) rfl
  obtain ⟨x0, x1, x2, _, _, _⟩ := id X0
  have hN := fun w' (hb : Below w.heap.size w w') => norm_n (h1.below hb) hl
  have hlen := Lib.hid hbig
  clear X0 h1 hl hbig
  go_enter Tryd.func49, Tryd.ntmps49
  go_wp2_with fail
  refine (hN _ (by repeat' (first | exact Below.refl _ _ | refine below_alloc ?_ _))).mono ?_
  rintro z w1 ⟨a', n', c', rfl, h2, hb⟩
  have hd := Lib.hid (show 2048 < n' by have := hlen.out; have := h2.1; omega)
  clear hN h2
  go_wp2_with fail
  go_ret
  exact ⟨by have := hd.out; simp; omega, below_step (w0 := w) (by (repeat' (first | exact Below.refl _ _ | assumption | (refine below_alloc ?_ _) | (refine Below.setCell ?_ ?_ _) | (refine Below.drew ?_) | (refine below_drewN ?_ _))) <;> (first | (simp; done) | (simp; omega) | omega)) hb⟩
set_option maxHeartbeats 4000000 in
theorem sQuot_long (s s' : Bool) (e e' : Int) (hT : Tab w) (h1 : Num w a n c l) (h2 : Num w b m d k) (hl : l.length ≤ 4000) (hl' : k.length ≤ 400) (he : mayE e) (he' : mayE e') (h0 : valL k ≠ 0) (hbig : 2048 < (limbs (opnD ⟨s, valL l, e⟩).m).length) :
    Calls Tryd.prog 20 #[.agg #[.bool s, .slice a n c, .int .i64 e], .agg #[.bool s', .slice b m d, .int .i64 e']] w fun z w' => z = .returned (.tuple #[.float .f64 0, .int .i64 3]) ∧ Below w.heap.size w w' := by
  have X0 := (Boxed3.new w s a n c e 37 (g := w.heap.size) rfl).alloc (.cells #[.bool s', .slice b m d, .int .i64 e'] 37)
  have Y0 := Boxed3.new (w.alloc (.cells #[.bool s, .slice a n c, .int .i64 e] 37)) s' b m d e' 37 (g := w.heap.size + 1) (by simp)
  obtain ⟨X, hX⟩ : ∃ X, opnD ⟨s, valL l, e⟩ = X := ⟨_, rfl⟩
  obtain ⟨Y, hY⟩ : ∃ Y, opnD ⟨s', valL k, e'⟩ = Y := ⟨_, rfl⟩
  have hO := fun g w' (hb : Below w.heap.size w w') (hp) (hp') (hx) (hx') (hg) (hg') => sopen2 (w.heap.size) g w.heap.size (w.heap.size + 1) s s' a b n c m d l k e e' w' X Y hX hY (Nat.le_refl _) (Nat.le_succ _) hb.size hg hg' (by omega) (by omega) hp hp' hx hx' (h1.below hb) (h2.below hb) (fun w'' hb' => hT.below (hb.trans hb')) (by omega) (by omega) he he'
  have mY : mayE Y.e := by rw [← hY]; exact opn_may (by exact he')
  have sY := sign_opn mY
  have z0 : Y.m ≠ 0 := by rw [← hY]; exact fun h => h0 ((opn_zero _).1 h)
  rw [if_neg z0] at sY
  obtain ⟨z, hz⟩ : ∃ z, signO Y = z := ⟨_, rfl⟩
  have hz0 : z ≠ 0 := by rw [← hz, sY]; split <;> decide
  rw [hX] at hbig
  have HZ := Lib.hid (And.intro hz hbig)
  have HL := Lib.hid (And.intro hl hl')
  clear hX hY sY h1 h2 he he' mY z0 h0 hz hbig hl hl'
  go_enter Tryd.func20, Tryd.ntmps20
  go_wp2_with fail
  refine (hO _ _ (by repeat' (first | exact Below.refl _ _ | refine below_alloc ?_ _)) (by simp [go_sem]) (by simp [go_sem]) (X0.alloc _) (Y0.alloc _) (by omega) (by omega)).mono ?_
  rintro x w1 ⟨a_p, n_p, c_p, l1, a_q, n_q, c_q, l2, rfl, X1, N1, V1, Y1, N2, V2, hB1, A1⟩
  have HS : Hid (At w w1 [(a_p, n_p, c_p, l1), (a_q, n_q, c_q, l2)]) := Lib.hid ⟨Below.trans (by repeat' (first | exact Below.refl _ _ | refine below_alloc ?_ _)) hB1, N1, N2, trivial⟩
  have HV := Lib.hid (And.intro V1 V2)
  have B_x := Lib.hid X1
  have B_y := Lib.hid Y1
  clear hO X0 Y0 A1 hB1 N1 N2 V1 V2 X1 Y1
  obtain ⟨y0, y1, y2, _, _, _⟩ := id (B_y.out)
  go_wp2_with fail
  refine (dSign_v Y.s Y.e z (hT.below (below_step HS.out.1 (by repeat' (first | exact Below.refl _ _ | refine below_alloc ?_ _)))) (HS.out.get 1 rfl (by repeat' (first | exact Below.refl _ _ | refine below_alloc ?_ _))) HV.out.2.1 (by have := HV.out.2.2; have := HL.out.2; omega) HZ.out.1).mono ?_
  rintro e w2 ⟨rfl, hb⟩
  replace B_x := Lib.hid (B_x.out.later (by repeat' (first | exact Below.refl _ _ | refine below_alloc ?_ _)) hb)
  replace B_y := Lib.hid (B_y.out.later (by repeat' (first | exact Below.refl _ _ | refine below_alloc ?_ _)) hb)
  clear y0 y1 y2
  replace HS := Lib.hid (HS.out.call (by repeat' (first | exact Below.refl _ _ | refine below_alloc ?_ _)) hb)
  clear hb
  obtain ⟨x0, x1, x2, _, _, _⟩ := id (B_x.out)
  go_wp2_with fail
  refine (slong_true X.s X.e (HS.out.get 0 rfl (by repeat' (first | exact Below.refl _ _ | refine below_alloc ?_ _))) (by have := HV.out.1.2; have := HL.out.1; omega) (by rw [HV.out.1.1]; exact HZ.out.2)).mono ?_
  rintro e w3 ⟨rfl, hb⟩
  replace HS := Lib.hid (HS.out.call (by repeat' (first | exact Below.refl _ _ | refine below_alloc ?_ _)) hb)
  clear hb
  go_wp2_with fail
  go_ret2
  exact ⟨rfl, HS.out.1⟩
set_option maxHeartbeats 4000000 in
theorem sRoot_long (s : Bool) (e : Int) (hT : Tab w) (h1 : Num w a n c l) (hl : l.length ≤ 4000) (he : mayE e) (hs : s = false) (h0 : valL l ≠ 0) (hbig : 2048 < (limbs (opnD ⟨s, valL l, e⟩).m).length) :
    Calls Tryd.prog 21 #[.agg #[.bool s, .slice a n c, .int .i64 e]] w fun z w' => z = .returned (.tuple #[.float .f64 0, .int .i64 3]) ∧ Below w.heap.size w w' := by
  have X0 := Boxed3.new w s a n c e 37 (g := w.heap.size) rfl
  obtain ⟨X, hX⟩ : ∃ X, opnD ⟨s, valL l, e⟩ = X := ⟨_, rfl⟩
  have hO := fun g w' (hb : Below w.heap.size w w') (hp) (hx) (hg) => sopen1 w.heap.size g w.heap.size s a n c l e w' X hX (Nat.le_refl _) hb.size hg hp hx (h1.below hb) (hT.below hb) (by omega) he
  have mX : mayE X.e := by rw [← hX]; exact opn_may (by exact he)
  have sX := sign_opn mX
  have z0 : X.m ≠ 0 := by rw [← hX]; exact fun h => h0 ((opn_zero _).1 h)
  have zs : X.s = false := by rw [← hX, opn_s h0]; exact hs
  rw [if_neg z0, if_neg (by rw [zs]; decide)] at sX
  rw [hX] at hbig
  have HZ := Lib.hid (And.intro sX hbig)
  have HL := Lib.hid hl
  clear hX sX h1 he mX z0 h0 zs hs hbig hl
  go_enter Tryd.func21, Tryd.ntmps21
  go_wp2_with fail
  refine (hO _ _ (by repeat' (first | exact Below.refl _ _ | refine below_alloc ?_ _)) (by simp [go_sem]) (X0.alloc _) (by omega)).mono ?_
  rintro x w1 ⟨a_p, n_p, c_p, l1, rfl, X1, N1, V1, hB1, A1⟩
  have HS : Hid (At w w1 [(a_p, n_p, c_p, l1)]) := Lib.hid ⟨Below.trans (by repeat' (first | exact Below.refl _ _ | refine below_alloc ?_ _)) hB1, N1, trivial⟩
  have HV := Lib.hid V1
  have B_x := Lib.hid X1
  clear hO X0 A1 hB1 N1 V1 X1
  obtain ⟨x0, x1, x2, _, _, _⟩ := id (B_x.out)
  have hSg := fun wx (h : Below w1.heap.size w1 wx) => dSign_any X.s X.e (hT.below (below_step HS.out.1 h)) (HS.out.get 0 rfl h) (by have := HV.out.2; have := HL.out; omega)
  rw [HV.out.1] at hSg
  have e1 : (⟨X.s, X.m, X.e⟩ : Dy) = X := rfl
  rw [e1, HZ.out.1] at hSg
  go_wp2_with fail
  refine (hSg _ (by repeat' (first | exact Below.refl _ _ | refine below_alloc ?_ _))).mono ?_
  rintro e w2 ⟨rfl, hb⟩
  replace B_x := Lib.hid (B_x.out.later (by repeat' (first | exact Below.refl _ _ | refine below_alloc ?_ _)) hb)
  clear x0 x1 x2 hSg
  replace HS := Lib.hid (HS.out.call (by repeat' (first | exact Below.refl _ _ | refine below_alloc ?_ _)) hb)
  clear hb
  obtain ⟨x0, x1, x2, _, _, _⟩ := id (B_x.out)
  go_wp2_with fail
  refine (slong_true X.s X.e (HS.out.get 0 rfl (by repeat' (first | exact Below.refl _ _ | refine below_alloc ?_ _))) (by have := HV.out.2; have := HL.out; omega) (by rw [HV.out.1]; exact HZ.out.2)).mono ?_
  rintro e w3 ⟨rfl, hb⟩
  replace HS := Lib.hid (HS.out.call (by repeat' (first | exact Below.refl _ _ | refine below_alloc ?_ _)) hb)
  clear hb
  go_wp2_with fail
  go_ret2
  exact ⟨rfl, HS.out.1⟩
end
end Go.Proofs.YtjlaadadbpffdaaDoor
