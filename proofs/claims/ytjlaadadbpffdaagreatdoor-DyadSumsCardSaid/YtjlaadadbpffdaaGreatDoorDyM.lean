/-
  dyad's contracts by values: what the laws' walks call; math.NaN, Copysign, Inf; plain facts that reckon closed numbers.
-/
import Derived.Test.YtjlaadadbpffdaaGreatDoorDyK
set_option linter.unusedSimpArgs false
set_option linter.unusedVariables false
namespace Go.Plumb
open Go.RowKit
theorem nrm_is {d : Dy} (q k : Nat) (h : d.m = q * 2 ^ k) (hq : q % 2 = 1) : nrm d = ⟨d.s, q, d.e + k⟩ := by
  have h0 : d.m ≠ 0 := by
    rw [h]
    exact Nat.mul_ne_zero (by omega) (Nat.ne_of_gt (Nat.two_pow_pos k))
  rw [nrm_pos h0, h, oddN_odd_mul q k hq, zerosN_odd_mul q k hq]
theorem nrm_odd {d : Dy} (hq : d.m % 2 = 1) : nrm d = d := by
  have := nrm_is (d := d) d.m 0 (by simp) hq
  rw [this]
  simp
theorem nrm_o {s : Bool} {m : Nat} {e : Int} (hq : m % 2 = 1) : nrm ⟨s, m, e⟩ = ⟨s, m, e⟩ := nrm_odd hq
theorem doneO_is {x R : Dy} (h : nrm x = R) (hm : mayE R.e) : doneO x = (R, 0) := by unfold doneO; rw [h, if_pos hm]
theorem doneO_no {x R : Dy} (h : nrm x = R) (hm : ¬ mayE R.e) : doneO x = (zeroD, 3) := by unfold doneO; rw [h, if_neg hm]
theorem addO_is {x y X Y D R : Dy} (m1 : mayE x.e) (m2 : mayE y.e) (hx : nrm x = X) (hy : nrm y = Y) (hf : ¬ farD X Y) (hD : addD X Y = D) (hR : nrm D = R) (hm : mayE R.e) : addO x y = (R, 0) := by
  unfold addO; rw [if_pos ⟨m1, m2⟩, hx, hy, if_neg hf, hD, doneO_is hR hm]
theorem addO_far {x y X Y : Dy} (m1 : mayE x.e) (m2 : mayE y.e) (hx : nrm x = X) (hy : nrm y = Y) (hf : farD X Y) : addO x y = (zeroD, 3) := by
  unfold addO; rw [if_pos ⟨m1, m2⟩, hx, hy, if_pos hf]
theorem mulO_is {x y X Y D R : Dy} (m1 : mayE x.e) (m2 : mayE y.e) (hx : nrm x = X) (hy : nrm y = Y) (hD : mulD X Y = D) (hR : nrm D = R) (hm : mayE R.e) : mulO x y = (R, 0) := by
  unfold mulO; rw [if_pos ⟨m1, m2⟩, hx, hy, hD, doneO_is hR hm]
theorem mulO_no {x y X Y D R : Dy} (m1 : mayE x.e) (m2 : mayE y.e) (hx : nrm x = X) (hy : nrm y = Y) (hD : mulD X Y = D) (hR : nrm D = R) (hm : ¬ mayE R.e) : mulO x y = (zeroD, 3) := by
  unfold mulO; rw [if_pos ⟨m1, m2⟩, hx, hy, hD, doneO_no hR hm]
theorem normO_is {x R : Dy} (m1 : mayE x.e) (hR : nrm x = R) (hm : mayE R.e) : normO x = (R, 0) := by unfold normO; rw [if_pos m1, doneO_is hR hm]
theorem normO_no {x R : Dy} (m1 : mayE x.e) (hR : nrm x = R) (hm : ¬ mayE R.e) : normO x = (zeroD, 3) := by unfold normO; rw [if_pos m1, doneO_no hR hm]
theorem cmpO_is {x y X Y : Dy} {z : Int} (m1 : mayE x.e) (m2 : mayE y.e) (hx : nrm x = X) (hy : nrm y = Y) (hf : ¬ farD X Y) (hD : cmpD X Y = z) : cmpO x y = (z, 0) := by
  unfold cmpO; rw [if_pos ⟨m1, m2⟩, hx, hy, if_neg hf, hD]
theorem cmpO_far {x y X Y : Dy} (m1 : mayE x.e) (m2 : mayE y.e) (hx : nrm x = X) (hy : nrm y = Y) (hf : farD X Y) : cmpO x y = (0, 3) := by
  unfold cmpO; rw [if_pos ⟨m1, m2⟩, hx, hy, if_pos hf]
theorem near_of {x y X Y : Dy} (hx : nrm x = X) (hy : nrm y = Y) (h : farD X Y ∨ nearD X Y) : farD (nrm x) (nrm y) ∨ nearD (nrm x) (nrm y) := by rw [hx, hy]; exact h
theorem num_odd0 {w : World} {a : Option Addr} {n c : Nat} {l : List Nat} {s : Bool} {m : Nat} {e : Int} (h : Num w a n c l) : Num w a n c l := h
end Go.Plumb
namespace Go.Proofs.YtjlaadadbpffdaaGreatDoor
open Go.RowKit Go.Plumb
section
variable {w : World} {a b : Option Addr} {n c m d : Nat} {l k : List Nat}
theorem nan_any (w : World) : Calls Tryz.prog 71 #[] w fun z w' => z = .returned (.float .f64 9221120237041090561) ∧ w = w' := by
  have hr := run_frombits
  go_enter Tryz.func71, Tryz.ntmps71
  go_wp2_with fail
  go_ret
  exact ⟨rfl, rfl⟩
theorem inf_any (w : World) : Calls Tryz.prog 66 #[.int .i64 1] w fun z w' => z = .returned (.float .f64 9218868437227405312) ∧ w = w' := by
  have hr := run_frombits
  go_enter Tryz.func66, Tryz.ntmps66
  go_wp2_with fail
  go_ret
  exact ⟨rfl, rfl⟩
theorem copysign0_any (w : World) : Calls Tryz.prog 65 #[.float .f64 0, .float .f64 13830554455654793216] w fun z w' => z = .returned (.float .f64 9223372036854775808) ∧ w = w' := by
  have hr := run_frombits
  have hb := run_bits
  have e1 : bits .andNot .u64 ((0 : Nat) : Int) 9223372036854775808 = 0 := by decide
  have e2 : bits .and .u64 ((13830554455654793216 : Nat) : Int) 9223372036854775808 = 9223372036854775808 := by decide
  have e3 : bits .or .u64 0 9223372036854775808 = 9223372036854775808 := by decide
  go_enter Tryz.func65, Tryz.ntmps65
  go_wp2_with fail
  go_ret
  exact ⟨rfl, rfl⟩
set_option maxHeartbeats 1000000 in
theorem dOf_bad (x : Nat) (hx : x < 18446744073709551616) (hc : 3 < classI (x : Int)) :
    Calls Tryz.prog 25 #[.float .f64 x] w fun z w' => z = .returned (.tuple #[.agg #[.bool false, .slice none 0 0, .int .i64 0], .int .i64 2]) ∧ Below w.heap.size w w' := by
  have R0 := Boxed3.new w false none 0 0 0 24 (g := w.heap.size) rfl
  have hOf := fun w => of_any x w hx
  have ho : 0 ≤ oneI (x : Int) ∧ oneI (x : Int) < 18446744073709551616 ∧ 3 < classI (oneI (x : Int)) := by
    unfold oneI nanW
    split
    · decide
    · exact ⟨by omega, by omega, hc⟩
  obtain ⟨X, hX⟩ : ∃ X, oneI (x : Int) = X := ⟨_, rfl⟩
  rw [hX] at hOf ho
  have hPa := fun w => parts_any X w ho.1 ho.2.1
  have hpe : pErr X = 2 := by unfold pErr; rw [if_neg (by omega)]
  obtain ⟨q1, hq1⟩ : ∃ q1, pNeg X = q1 := ⟨_, rfl⟩
  obtain ⟨q2, hq2⟩ : ∃ q2, pMan X = q2 := ⟨_, rfl⟩
  obtain ⟨q3, hq3⟩ : ∃ q3, pExp X = q3 := ⟨_, rfl⟩
  simp only [hpe, hq1, hq2, hq3] at hPa
  clear hX ho hpe hq1 hq2 hq3 hc hx
  go_enter Tryz.func25, Tryz.ntmps25
  go_wp2_with fail
  refine (hOf _).mono ?_
  rintro z w' ⟨rfl, rfl⟩
  go_wp2_with fail
  refine (hPa _).mono ?_
  rintro z w1 ⟨rfl, hb⟩
  have R1 := (R0.below hb).alloc (.cells #[.bool q1, .int .u64 q2, .int .i64 q3] 97)
  have hB1 := below_step (w0 := w) (by (repeat' (first | exact Below.refl _ _ | assumption | (refine below_alloc ?_ _) | (refine Below.setCell ?_ ?_ _) | (refine Below.drew ?_) | (refine below_drewN ?_ _))) <;> (first | (simp; done) | (simp; omega) | omega)) hb
  obtain ⟨r0, r1, r2, g0, g1, g2⟩ := id R1
  clear hOf hPa hb R0
  go_wp2_with fail
  exact bodyPost_ret (v := .tuple #[.agg #[.bool false, .slice none 0 0, .int .i64 0], .int .i64 2]) (by simp [results, Tryz.results25, go_sem, r0, r1, r2, g0, g1, g2]) rfl ⟨rfl, by (repeat' (first | exact Below.refl _ _ | assumption | (refine below_alloc ?_ _) | (refine Below.setCell ?_ ?_ _) | (refine Below.drew ?_) | (refine below_drewN ?_ _))) <;> (first | (simp; done) | (simp; omega) | omega)⟩
theorem dAdd_v (s s' : Bool) (e e' : Int) {M M' : Nat} (R : Dy) (r : Int) (hT : Tab w) (h1 : Num w a n c l) (h2 : Num w b m d k) (v1 : valL l = M) (v2 : valL k = M') (hl : l.length + k.length ≤ 1000) (hn : farD (nrm ⟨s, M, e⟩) (nrm ⟨s', M', e'⟩) ∨ nearD (nrm ⟨s, M, e⟩) (nrm ⟨s', M', e'⟩)) (hO : addO ⟨s, M, e⟩ ⟨s', M', e'⟩ = (R, r)) :
    Calls Tryz.prog 38 #[.agg #[.bool s, .slice a n c, .int .i64 e], .agg #[.bool s', .slice b m d, .int .i64 e']] w fun x w' => ∃ a' n' c', x = .returned (.tuple #[.agg #[.bool R.s, .slice a' n' c', .int .i64 R.e], .int .i64 r]) ∧ Num w' a' n' c' (limbs R.m) ∧ Below w.heap.size w w' := by
  subst v1 v2
  exact dAdd_any s s' e e' R r hT h1 h2 hl hn hO
theorem dSub_v (s s' : Bool) (e e' : Int) {M M' : Nat} (R : Dy) (r : Int) (hT : Tab w) (h1 : Num w a n c l) (h2 : Num w b m d k) (v1 : valL l = M) (v2 : valL k = M') (hl : l.length + k.length ≤ 1000) (hn : farD (nrm ⟨s, M, e⟩) (nrm ⟨!s', M', e'⟩) ∨ nearD (nrm ⟨s, M, e⟩) (nrm ⟨!s', M', e'⟩)) (hO : addO ⟨s, M, e⟩ ⟨!s', M', e'⟩ = (R, r)) :
    Calls Tryz.prog 40 #[.agg #[.bool s, .slice a n c, .int .i64 e], .agg #[.bool s', .slice b m d, .int .i64 e']] w fun x w' => ∃ a' n' c', x = .returned (.tuple #[.agg #[.bool R.s, .slice a' n' c', .int .i64 R.e], .int .i64 r]) ∧ Num w' a' n' c' (limbs R.m) ∧ Below w.heap.size w w' := by
  subst v1 v2
  exact dSub_any s s' e e' R r hT h1 h2 hl hn hO
theorem dMul_v (s s' : Bool) (e e' : Int) {M M' : Nat} (R : Dy) (r : Int) (hT : Tab w) (h1 : Num w a n c l) (h2 : Num w b m d k) (v1 : valL l = M) (v2 : valL k = M') (hl : l.length + k.length ≤ 1000) (hO : mulO ⟨s, M, e⟩ ⟨s', M', e'⟩ = (R, r)) :
    Calls Tryz.prog 42 #[.agg #[.bool s, .slice a n c, .int .i64 e], .agg #[.bool s', .slice b m d, .int .i64 e']] w fun x w' => ∃ a' n' c', x = .returned (.tuple #[.agg #[.bool R.s, .slice a' n' c', .int .i64 R.e], .int .i64 r]) ∧ Num w' a' n' c' (limbs R.m) ∧ Below w.heap.size w w' := by
  subst v1 v2
  exact dMul_any s s' e e' R r hT h1 h2 (Nat.le_trans hl (by omega)) hO
theorem dCmp_v (s s' : Bool) (e e' : Int) {M M' : Nat} (z r : Int) (hT : Tab w) (h1 : Num w a n c l) (h2 : Num w b m d k) (v1 : valL l = M) (v2 : valL k = M') (hl : l.length + k.length ≤ 1000) (hm : mayE e) (hm' : mayE e') (hn : farD (nrm ⟨s, M, e⟩) (nrm ⟨s', M', e'⟩) ∨ nearD (nrm ⟨s, M, e⟩) (nrm ⟨s', M', e'⟩)) (hO : cmpO ⟨s, M, e⟩ ⟨s', M', e'⟩ = (z, r)) :
    Calls Tryz.prog 46 #[.agg #[.bool s, .slice a n c, .int .i64 e], .agg #[.bool s', .slice b m d, .int .i64 e']] w fun x w' => x = .returned (.tuple #[.int .i64 z, .int .i64 r]) ∧ Below w.heap.size w w' := by
  subst v1 v2
  exact dCmp_ok s s' e e' z r hT h1 h2 hl hm hm' hn hO
theorem dNorm_v (s : Bool) (e : Int) {M : Nat} (R : Dy) (r : Int) (hT : Tab w) (h1 : Num w a n c l) (v1 : valL l = M) (hl : l.length ≤ 1000) (hO : normO ⟨s, M, e⟩ = (R, r)) :
    Calls Tryz.prog 47 #[.agg #[.bool s, .slice a n c, .int .i64 e]] w fun x w' => ∃ a' n' c', x = .returned (.tuple #[.agg #[.bool R.s, .slice a' n' c', .int .i64 R.e], .int .i64 r]) ∧ Num w' a' n' c' (limbs R.m) ∧ Below w.heap.size w w' := by
  subst v1
  have := dNorm_any s e hT h1 (Nat.le_trans hl (by omega))
  simp only [hO] at this
  exact this
theorem dNeg_v (s : Bool) (e : Int) {M : Nat} (R : Dy) (r : Int) (hT : Tab w) (h1 : Num w a n c l) (v1 : valL l = M) (hl : l.length ≤ 1000) (hO : normO ⟨!s, M, e⟩ = (R, r)) :
    Calls Tryz.prog 51 #[.agg #[.bool s, .slice a n c, .int .i64 e]] w fun x w' => ∃ a' n' c', x = .returned (.tuple #[.agg #[.bool R.s, .slice a' n' c', .int .i64 R.e], .int .i64 r]) ∧ Num w' a' n' c' (limbs R.m) ∧ Below w.heap.size w w' := by
  subst v1
  exact dNeg_any s e R r hT h1 (Nat.le_trans hl (by omega)) hO
theorem dAbs_v (s : Bool) (e : Int) {M : Nat} (R : Dy) (r : Int) (hT : Tab w) (h1 : Num w a n c l) (v1 : valL l = M) (hl : l.length ≤ 1000) (hO : normO ⟨false, M, e⟩ = (R, r)) :
    Calls Tryz.prog 52 #[.agg #[.bool s, .slice a n c, .int .i64 e]] w fun x w' => ∃ a' n' c', x = .returned (.tuple #[.agg #[.bool R.s, .slice a' n' c', .int .i64 R.e], .int .i64 r]) ∧ Num w' a' n' c' (limbs R.m) ∧ Below w.heap.size w w' := by
  subst v1
  exact dAbs_any s e R r hT h1 (Nat.le_trans hl (by omega)) hO
theorem dSign_v (s : Bool) (e : Int) {M : Nat} (z : Int) (hT : Tab w) (h1 : Num w a n c l) (v1 : valL l = M) (hl : l.length ≤ 1000) (hO : signO ⟨s, M, e⟩ = z) :
    Calls Tryz.prog 48 #[.agg #[.bool s, .slice a n c, .int .i64 e]] w fun x w' => x = .returned (.int .i64 z) ∧ Below w.heap.size w w' := by
  subst v1
  subst hO
  exact dSign_any s e hT h1 (Nat.le_trans hl (by omega))
theorem dFloat_v (s : Bool) (e : Int) {M : Nat} (W : Nat) (hT : Tab w) (h1 : Num w a n c l) (v1 : valL l = M) (hl : l.length ≤ 1000) (hm : mayE e) (hO : rndD (nrm ⟨s, M, e⟩) = W) :
    Calls Tryz.prog 30 #[.agg #[.bool s, .slice a n c, .int .i64 e]] w fun x w' => x = .returned (.tuple #[.float .f64 W, .int .i64 0]) ∧ Below w.heap.size w w' := by
  subst v1
  subst hO
  exact dFloat_any s e hT h1 (Nat.le_trans hl (by omega)) hm
theorem lfloat_v (s : Bool) (e : Int) {M : Nat} (W : Nat) (hT : Tab w) (h1 : Num w a n c l) (v1 : valL l = M) (hl : l.length ≤ 1000) (hm : mayE e) (hO : rndD (nrm ⟨s, M, e⟩) = W) :
    Calls Tryz.prog 61 #[.agg #[.bool s, .slice a n c, .int .i64 e], .int .i64 0, .float .f64 W] w fun z w' => z = .returned (.bool true) ∧ Below w.heap.size w w' := by
  subst v1
  exact lfloat_any s e W hT h1 (Nat.le_trans hl (by omega)) hm hO
theorem dShift_v (s : Bool) (e : Int) {M : Nat} (i : Int) (R : Dy) (r : Int) (hi0 : -9223372036854775808 ≤ i) (hi1 : i ≤ 9223372036854775807) (hT : Tab w) (h1 : Num w a n c l) (v1 : valL l = M) (hl : l.length ≤ 1000) (hO : shiftO ⟨s, M, e⟩ i = (R, r)) :
    Calls Tryz.prog 49 #[.agg #[.bool s, .slice a n c, .int .i64 e], .int .i64 i] w fun x w' => ∃ a' n' c', x = .returned (.tuple #[.agg #[.bool R.s, .slice a' n' c', .int .i64 R.e], .int .i64 r]) ∧ Num w' a' n' c' (limbs R.m) ∧ Below w.heap.size w w' := by
  subst v1
  exact dShift_any s e i R r hi0 hi1 hT h1 (Nat.le_trans hl (by omega)) hO
theorem ltext_v (s : Bool) (e : Int) {M : Nat} (W : ByteArray) (X : Dy) (hT : Tab w) (h1 : Num w a n c l) (v1 : valL l = M) (hl : l.length ≤ 1000) (hQ : PowT Tryz.prog w) (hm : mayE e) (hX : nrm ⟨s, M, e⟩ = X) (hTl : (textN X.m).length ≤ 1000000) (hIl : (Lib.itoa X.e).length ≤ 1000) (hW : (⟨(textD X.s X.m X.e).toArray⟩ : ByteArray) = W) :
    Calls Tryz.prog 98 #[.agg #[.bool s, .slice a n c, .int .i64 e], .int .i64 0, .string W] w fun z w' => z = .returned (.bool true) ∧ Below w.heap.size w w' := by
  subst v1
  subst hX
  exact ltext_any s e W hT hQ h1 hl hm hTl hIl hW
end
end Go.Proofs.YtjlaadadbpffdaaGreatDoor
