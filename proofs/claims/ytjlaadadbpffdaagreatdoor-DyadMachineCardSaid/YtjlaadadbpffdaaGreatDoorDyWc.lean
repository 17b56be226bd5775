/-
  Layer 3's laws, walked: DyadMachine (printed by dyadlaws.py).
-/
import Derived.Test.YtjlaadadbpffdaaGreatDoorDyFit
import Derived.Laws.FloatArith
set_option linter.unusedSimpArgs false
set_option linter.unusedVariables false
namespace Go.Proofs.YtjlaadadbpffdaaGreatDoor
open Go.RowKit Go.Plumb

set_option maxRecDepth 100000 in
set_option maxHeartbeats 4000000 in
theorem w_DyadMachine (w : World) (hT : Tab w) (hQ : PowT Tryz.prog w) (x : Nat) (hx : x < 18446744073709551616) (y : Nat) (hy : y < 18446744073709551616) :
    Calls Tryz.prog 10 #[.int .u64 (x : Int), .int .u64 (y : Int)] w fun e w' => e = .returned (.bool true) ∧ Below w.heap.size w w' := by
  have HS : Hid (At w w []) := Lib.hid (At.start w)
  have hr := run_frombits
  have hxx : ((x : Int)).toNat = x := by omega
  have hyy : ((y : Int)).toNat = y := by omega
  have HXY : Hid (x < 18446744073709551616 ∧ y < 18446744073709551616) := Lib.hid ⟨hx, hy⟩
  by_cases hc : classI (x : Int) ≤ 3
  · by_cases hd : classI (y : Int) ≤ 3
    · obtain ⟨KK, hKK⟩ : ∃ K, K = 2100 := ⟨_, rfl⟩
      have fx := (word_fit x KK hKK).nrm (by omega)
      have fy := (word_fit y KK hKK).nrm (by omega)
      have ex := (word_fit x KK hKK).e (by omega) (by omega)
      have ey := (word_fit y KK hKK).e (by omega) (by omega)
      obtain ⟨z1, hz1, ho1⟩ := sum_order x y hc hd hx hy
      obtain ⟨z2, hz2, ho2⟩ := sub_order x y hc hd hx hy
      obtain ⟨z3, hz3, ho3⟩ := mul_order x y hc hd hx hy
      have hop1 : ∀ t w, (binOp .add t (.float .f64 x) (.float .f64 y)).run Tryz.prog w = .ok (.float .f64 z1) w := fun t w => run_float_arith w .add t .f64 x y z1 hz1
      have hop2 : ∀ t w, (binOp .sub t (.float .f64 x) (.float .f64 y)).run Tryz.prog w = .ok (.float .f64 z2) w := fun t w => run_float_arith w .sub t .f64 x y z2 hz2
      have hop3 : ∀ t w, (binOp .mul t (.float .f64 x) (.float .f64 y)).run Tryz.prog w = .ok (.float .f64 z3) w := fun t w => run_float_arith w .mul t .f64 x y z3 hz3
      obtain ⟨X, hX⟩ : ∃ X, nrm (dyW x) = X := ⟨_, rfl⟩
      obtain ⟨Y, hY⟩ : ∃ Y, nrm (dyW y) = Y := ⟨_, rfl⟩
      have hnx : nrm X = X := by rw [← hX, nrm_nrm]
      have hny : nrm Y = Y := by rw [← hY, nrm_nrm]
      rw [hX] at fx ex ho1 ho2 ho3
      rw [hY] at fy ey ho1 ho2 ho3
      have mx : mayE X.e := by unfold mayE; omega
      have my : mayE Y.e := by unfold mayE; omega
      have hS := sumO_ok fx fy mx my (by omega) (by omega) (by omega)
      have hD := sumO_ok fx fy.neg mx my (by omega) (by omega) (by omega)
      have hP := mulO_ok fx fy mx my (by omega) (by omega) (by omega) (by omega) (by omega) (by omega)
      have lS := ((fx.add fy).nrm (by omega)).len
      have lD := ((fx.add fy.neg).nrm (by omega)).len
      have lP := ((fx.mul fy).nrm (by omega)).len
      have lx := fx.len
      have ly := fy.len
      have nS := nrm_nrm (addD X Y)
      have nD := nrm_nrm (addD X (negD Y))
      have nP := nrm_nrm (mulD X Y)
      obtain ⟨S, hSe⟩ : ∃ S, nrm (addD X Y) = S := ⟨_, rfl⟩
      obtain ⟨D, hDe⟩ : ∃ D, nrm (addD X (negD Y)) = D := ⟨_, rfl⟩
      obtain ⟨M, hPe⟩ : ∃ M, nrm (mulD X Y) = M := ⟨_, rfl⟩
      rw [hSe] at hS lS nS ho1
      rw [hDe] at hD lD nD ho2
      rw [hPe] at hP lP nP ho3
      obtain ⟨FS, hFS⟩ : ∃ F, rndD S = F := ⟨_, rfl⟩
      obtain ⟨FD, hFD⟩ : ∃ F, rndD D = F := ⟨_, rfl⟩
      obtain ⟨FP, hFP⟩ : ∃ F, rndD M = F := ⟨_, rfl⟩
      rw [hFS] at ho1
      rw [hFD] at ho2
      rw [hFP] at ho3
      have he1 : (FloatKind.f64.format.order FS z1 == some Ordering.eq) = true := by rw [ho1]; rfl
      have he2 : (FloatKind.f64.format.order FD z2 == some Ordering.eq) = true := by rw [ho2]; rfl
      have he3 : (FloatKind.f64.format.order FP z3 == some Ordering.eq) = true := by rw [ho3]; rfl
      have dx : decide (classI (x : Int) ≤ 3) = true := decide_eq_true hc
      have dy : decide (classI (y : Int) ≤ 3) = true := decide_eq_true hd
      have l1 : (limbs X.m).length ≤ 40 := by omega
      have l2 : (limbs Y.m).length ≤ 40 := by omega
      have l3 : (limbs S.m).length ≤ 40 := by omega
      have l4 : (limbs D.m).length ≤ 40 := by omega
      have l5 : (limbs M.m).length ≤ 100 := by omega
      have HC := Lib.hid (And.intro hc hd)
      have HX := Lib.hid hX
      have HY := Lib.hid hY
      have HSS := Lib.hid (And.intro hS (And.intro hD hP))
      have HF := Lib.hid (And.intro hFS (And.intro hFD hFP))
      have HNN := Lib.hid (And.intro nS (And.intro nD nP))
      have HL := Lib.hid (And.intro l1 (And.intro l2 (And.intro l3 (And.intro l4 l5))))
      clear hx hy hc hd fx fy ex ey hz1 hz2 hz3 ho1 ho2 ho3 hX hY hnx hny mx my hS hD hP lS lD lP lx ly nS nD nP hSe hDe hPe hFS hFD hFP l1 l2 l3 l4 l5 hKK
      go_enter Tryz.func10, Tryz.ntmps10
      go_wp2_with fail
      refine (rfinite_any (x : Int) _ (by omega) (by have := HXY.out.1; omega)).mono ?_
      rintro e w' ⟨rfl, rfl⟩
      rw [dx]
      go_wp2_with fail
      refine (rfinite_any (y : Int) _ (by omega) (by have := HXY.out.2; omega)).mono ?_
      rintro e w' ⟨rfl, rfl⟩
      rw [dy]
      go_wp2_with fail
      refine (lof_v x HXY.out.1 HC.out.1 HX.out (hT.below (below_step HS.out.1 (by repeat' (first | exact Below.refl _ _ | refine below_alloc ?_ _))))).mono ?_
      rintro e w1 ⟨a_a, n_a, c_a, rfl, h0, hb⟩
      replace HS := Lib.hid (HS.out.num (by repeat' (first | exact Below.refl _ _ | refine below_alloc ?_ _)) hb h0)
      have L_a := Lib.hid h0.1
      clear hb h0
      go_wp2_with fail
      refine (lof_v y HXY.out.2 HC.out.2 HY.out (hT.below (below_step HS.out.1 (by repeat' (first | exact Below.refl _ _ | refine below_alloc ?_ _))))).mono ?_
      rintro e w2 ⟨a_b, n_b, c_b, rfl, h0, hb⟩
      replace HS := Lib.hid (HS.out.num (by repeat' (first | exact Below.refl _ _ | refine below_alloc ?_ _)) hb h0)
      have L_b := Lib.hid h0.1
      clear hb h0
      go_wp2_with fail
      refine (dAdd_v X.s Y.s X.e Y.e S 0 (hT.below (below_step HS.out.1 (by repeat' (first | exact Below.refl _ _ | refine below_alloc ?_ _)))) (HS.out.get 1 rfl (by repeat' (first | exact Below.refl _ _ | refine below_alloc ?_ _))) (HS.out.get 0 rfl (by repeat' (first | exact Below.refl _ _ | refine below_alloc ?_ _))) (valL_limbs _) (valL_limbs _) (by have := HL.out; omega) HSS.out.1.2.1 HSS.out.1.1).mono ?_
      rintro e w3 ⟨a_s, n_s, c_s, rfl, h0, hb⟩
      have B_a := Lib.hid (Boxed3.later (Boxed3.new w2 (X.s) a_a n_a c_a (X.e) 24 (g := w2.heap.size) (by simp)) (by repeat' (first | exact Below.refl _ _ | refine below_alloc ?_ _)) hb)
      have B_b := Lib.hid (Boxed3.later (Boxed3.new (w2.alloc (.cells #[.bool (X.s), .slice a_a n_a c_a, .int .i64 (X.e)] 24)) (Y.s) a_b n_b c_b (Y.e) 24 (g := w2.heap.size + 1) (by simp)) (by repeat' (first | exact Below.refl _ _ | refine below_alloc ?_ _)) hb)
      replace HS := Lib.hid (HS.out.num (by repeat' (first | exact Below.refl _ _ | refine below_alloc ?_ _)) hb h0)
      have L_s := Lib.hid h0.1
      clear hb h0
      obtain ⟨a0, a1, a2, _, _, _⟩ := id ((B_a.out).alloc (.cells #[.bool (S.s), .slice a_s n_s c_s, .int .i64 (S.e)] 24))
      obtain ⟨b0, b1, b2, _, _, _⟩ := id ((B_b.out).alloc (.cells #[.bool (S.s), .slice a_s n_s c_s, .int .i64 (S.e)] 24))
      go_wp2_with fail
      refine (dSub_v X.s Y.s X.e Y.e D 0 (hT.below (below_step HS.out.1 (by repeat' (first | exact Below.refl _ _ | refine below_alloc ?_ _)))) (HS.out.get 2 rfl (by repeat' (first | exact Below.refl _ _ | refine below_alloc ?_ _))) (HS.out.get 1 rfl (by repeat' (first | exact Below.refl _ _ | refine below_alloc ?_ _))) (valL_limbs _) (valL_limbs _) (by have := HL.out; omega) HSS.out.2.1.2.1 HSS.out.2.1.1).mono ?_
      rintro e w4 ⟨a_d, n_d, c_d, rfl, h0, hb⟩
      replace B_a := Lib.hid (B_a.out.later (by repeat' (first | exact Below.refl _ _ | refine below_alloc ?_ _)) hb)
      replace B_b := Lib.hid (B_b.out.later (by repeat' (first | exact Below.refl _ _ | refine below_alloc ?_ _)) hb)
      have B_s := Lib.hid (Boxed3.later (Boxed3.new w3 (S.s) a_s n_s c_s (S.e) 24 (g := w3.heap.size) (by simp)) (by repeat' (first | exact Below.refl _ _ | refine below_alloc ?_ _)) hb)
      clear a0 a1 a2 b0 b1 b2
      replace HS := Lib.hid (HS.out.num (by repeat' (first | exact Below.refl _ _ | refine below_alloc ?_ _)) hb h0)
      have L_d := Lib.hid h0.1
      clear hb h0
      obtain ⟨a0, a1, a2, _, _, _⟩ := id ((B_a.out).alloc (.cells #[.bool (D.s), .slice a_d n_d c_d, .int .i64 (D.e)] 24))
      obtain ⟨b0, b1, b2, _, _, _⟩ := id ((B_b.out).alloc (.cells #[.bool (D.s), .slice a_d n_d c_d, .int .i64 (D.e)] 24))
      go_wp2_with fail
      refine (dMul_v X.s Y.s X.e Y.e M 0 (hT.below (below_step HS.out.1 (by repeat' (first | exact Below.refl _ _ | refine below_alloc ?_ _)))) (HS.out.get 3 rfl (by repeat' (first | exact Below.refl _ _ | refine below_alloc ?_ _))) (HS.out.get 2 rfl (by repeat' (first | exact Below.refl _ _ | refine below_alloc ?_ _))) (valL_limbs _) (valL_limbs _) (by have := HL.out; omega) HSS.out.2.2.1).mono ?_
      rintro e w5 ⟨a_p, n_p, c_p, rfl, h0, hb⟩
      replace B_a := Lib.hid (B_a.out.later (by repeat' (first | exact Below.refl _ _ | refine below_alloc ?_ _)) hb)
      replace B_b := Lib.hid (B_b.out.later (by repeat' (first | exact Below.refl _ _ | refine below_alloc ?_ _)) hb)
      replace B_s := Lib.hid (B_s.out.later (by repeat' (first | exact Below.refl _ _ | refine below_alloc ?_ _)) hb)
      have B_d := Lib.hid (Boxed3.later (Boxed3.new w4 (D.s) a_d n_d c_d (D.e) 24 (g := w4.heap.size) (by simp)) (by repeat' (first | exact Below.refl _ _ | refine below_alloc ?_ _)) hb)
      clear a0 a1 a2 b0 b1 b2
      replace HS := Lib.hid (HS.out.num (by repeat' (first | exact Below.refl _ _ | refine below_alloc ?_ _)) hb h0)
      have L_p := Lib.hid h0.1
      clear hb h0
      obtain ⟨s0, s1, s2, _, _, _⟩ := id ((B_s.out).alloc (.cells #[.bool (M.s), .slice a_p n_p c_p, .int .i64 (M.e)] 24))
      go_wp2_with fail
      refine (dFloat_v S.s S.e FS (hT.below (below_step HS.out.1 (by repeat' (first | exact Below.refl _ _ | refine below_alloc ?_ _)))) (HS.out.get 2 rfl (by repeat' (first | exact Below.refl _ _ | refine below_alloc ?_ _))) (valL_limbs _) (by have := HL.out; omega) HSS.out.1.2.2 ((congrArg rndD HNN.out.1).trans HF.out.1)).mono ?_
      rintro e w6 ⟨rfl, hb⟩
      replace B_a := Lib.hid (B_a.out.later (by repeat' (first | exact Below.refl _ _ | refine below_alloc ?_ _)) hb)
      replace B_b := Lib.hid (B_b.out.later (by repeat' (first | exact Below.refl _ _ | refine below_alloc ?_ _)) hb)
      replace B_s := Lib.hid (B_s.out.later (by repeat' (first | exact Below.refl _ _ | refine below_alloc ?_ _)) hb)
      replace B_d := Lib.hid (B_d.out.later (by repeat' (first | exact Below.refl _ _ | refine below_alloc ?_ _)) hb)
      have B_p := Lib.hid (Boxed3.later (Boxed3.new w5 (M.s) a_p n_p c_p (M.e) 24 (g := w5.heap.size) (by simp)) (by repeat' (first | exact Below.refl _ _ | refine below_alloc ?_ _)) hb)
      clear s0 s1 s2
      replace HS := Lib.hid (HS.out.call (by repeat' (first | exact Below.refl _ _ | refine below_alloc ?_ _)) hb)
      clear hb
      obtain ⟨d0, d1, d2, _, _, _⟩ := id (B_d.out)
      go_wp2_with fail
      refine (dFloat_v D.s D.e FD (hT.below (below_step HS.out.1 (by repeat' (first | exact Below.refl _ _ | refine below_alloc ?_ _)))) (HS.out.get 1 rfl (by repeat' (first | exact Below.refl _ _ | refine below_alloc ?_ _))) (valL_limbs _) (by have := HL.out; omega) HSS.out.2.1.2.2 ((congrArg rndD HNN.out.2.1).trans HF.out.2.1)).mono ?_
      rintro e w7 ⟨rfl, hb⟩
      replace B_a := Lib.hid (B_a.out.later (by repeat' (first | exact Below.refl _ _ | refine below_alloc ?_ _)) hb)
      replace B_b := Lib.hid (B_b.out.later (by repeat' (first | exact Below.refl _ _ | refine below_alloc ?_ _)) hb)
      replace B_s := Lib.hid (B_s.out.later (by repeat' (first | exact Below.refl _ _ | refine below_alloc ?_ _)) hb)
      replace B_d := Lib.hid (B_d.out.later (by repeat' (first | exact Below.refl _ _ | refine below_alloc ?_ _)) hb)
      replace B_p := Lib.hid (B_p.out.later (by repeat' (first | exact Below.refl _ _ | refine below_alloc ?_ _)) hb)
      clear d0 d1 d2
      replace HS := Lib.hid (HS.out.call (by repeat' (first | exact Below.refl _ _ | refine below_alloc ?_ _)) hb)
      clear hb
      obtain ⟨p0, p1, p2, _, _, _⟩ := id (B_p.out)
      go_wp2_with fail
      refine (dFloat_v M.s M.e FP (hT.below (below_step HS.out.1 (by repeat' (first | exact Below.refl _ _ | refine below_alloc ?_ _)))) (HS.out.get 0 rfl (by repeat' (first | exact Below.refl _ _ | refine below_alloc ?_ _))) (valL_limbs _) (by have := HL.out; omega) HSS.out.2.2.2 ((congrArg rndD HNN.out.2.2).trans HF.out.2.2)).mono ?_
      rintro e w8 ⟨rfl, hb⟩
      replace B_a := Lib.hid (B_a.out.later (by repeat' (first | exact Below.refl _ _ | refine below_alloc ?_ _)) hb)
      replace B_b := Lib.hid (B_b.out.later (by repeat' (first | exact Below.refl _ _ | refine below_alloc ?_ _)) hb)
      replace B_s := Lib.hid (B_s.out.later (by repeat' (first | exact Below.refl _ _ | refine below_alloc ?_ _)) hb)
      replace B_d := Lib.hid (B_d.out.later (by repeat' (first | exact Below.refl _ _ | refine below_alloc ?_ _)) hb)
      replace B_p := Lib.hid (B_p.out.later (by repeat' (first | exact Below.refl _ _ | refine below_alloc ?_ _)) hb)
      clear p0 p1 p2
      replace HS := Lib.hid (HS.out.call (by repeat' (first | exact Below.refl _ _ | refine below_alloc ?_ _)) hb)
      clear hb
      go_wp2_with fail
      refine (num3_any 0 _).mono ?_
      rintro e w' ⟨rfl, rfl⟩
      go_wp2_with fail
      refine (num3_any 0 _).mono ?_
      rintro e w' ⟨rfl, rfl⟩
      go_wp2_with fail
      refine (num3_any 0 _).mono ?_
      rintro e w' ⟨rfl, rfl⟩
      go_wp2_with fail
      refine (num3_any 0 _).mono ?_
      rintro e w' ⟨rfl, rfl⟩
      go_wp2_with fail
      refine (num3_any 0 _).mono ?_
      rintro e w' ⟨rfl, rfl⟩
      go_wp2_with fail
      refine (num3_any 0 _).mono ?_
      rintro e w' ⟨rfl, rfl⟩
      go_wp2_with fail
      refine (known3_any _ (hT.below (below_step HS.out.1 (by repeat' (first | exact Below.refl _ _ | refine below_alloc ?_ _)))) (PowT_below hQ (below_step HS.out.1 (by repeat' (first | exact Below.refl _ _ | refine below_alloc ?_ _))))).mono ?_
      rintro e w9 ⟨rfl, hb⟩
      replace B_a := Lib.hid (B_a.out.later (by repeat' (first | exact Below.refl _ _ | refine below_alloc ?_ _)) hb)
      replace B_b := Lib.hid (B_b.out.later (by repeat' (first | exact Below.refl _ _ | refine below_alloc ?_ _)) hb)
      replace B_s := Lib.hid (B_s.out.later (by repeat' (first | exact Below.refl _ _ | refine below_alloc ?_ _)) hb)
      replace B_d := Lib.hid (B_d.out.later (by repeat' (first | exact Below.refl _ _ | refine below_alloc ?_ _)) hb)
      replace B_p := Lib.hid (B_p.out.later (by repeat' (first | exact Below.refl _ _ | refine below_alloc ?_ _)) hb)
      replace HS := Lib.hid (HS.out.call (by repeat' (first | exact Below.refl _ _ | refine below_alloc ?_ _)) hb)
      clear hb
      go_wp2_with fail
      go_ret
      exact ⟨rfl, HS.out.1⟩
    · have dx : decide (classI (x : Int) ≤ 3) = true := decide_eq_true hc
      have dy : decide (classI (y : Int) ≤ 3) = false := decide_eq_false hd
      clear hc hd hx hy
      go_enter Tryz.func10, Tryz.ntmps10
      go_wp2_with fail
      refine (rfinite_any (x : Int) _ (by omega) (by have := HXY.out.1; omega)).mono ?_
      rintro e w' ⟨rfl, rfl⟩
      rw [dx]
      go_wp2_with fail
      refine (rfinite_any (y : Int) _ (by omega) (by have := HXY.out.2; omega)).mono ?_
      rintro e w' ⟨rfl, rfl⟩
      rw [dy]
      go_wp2_with fail
      refine (known3_any _ (hT.below (below_step HS.out.1 (by repeat' (first | exact Below.refl _ _ | refine below_alloc ?_ _)))) (PowT_below hQ (below_step HS.out.1 (by repeat' (first | exact Below.refl _ _ | refine below_alloc ?_ _))))).mono ?_
      rintro e w1 ⟨rfl, hb⟩
      replace HS := Lib.hid (HS.out.call (by repeat' (first | exact Below.refl _ _ | refine below_alloc ?_ _)) hb)
      clear hb
      go_wp2_with fail
      go_ret
      exact ⟨rfl, HS.out.1⟩
  · have dx : decide (classI (x : Int) ≤ 3) = false := decide_eq_false hc
    clear hc hx hy
    go_enter Tryz.func10, Tryz.ntmps10
    go_wp2_with fail
    refine (rfinite_any (x : Int) _ (by omega) (by have := HXY.out.1; omega)).mono ?_
    rintro e w' ⟨rfl, rfl⟩
    rw [dx]
    go_wp2_with fail
    refine (known3_any _ (hT.below (below_step HS.out.1 (by repeat' (first | exact Below.refl _ _ | refine below_alloc ?_ _)))) (PowT_below hQ (below_step HS.out.1 (by repeat' (first | exact Below.refl _ _ | refine below_alloc ?_ _))))).mono ?_
    rintro e w1 ⟨rfl, hb⟩
    replace HS := Lib.hid (HS.out.call (by repeat' (first | exact Below.refl _ _ | refine below_alloc ?_ _)) hb)
    clear hb
    go_wp2_with fail
    go_ret
    exact ⟨rfl, HS.out.1⟩
end Go.Proofs.YtjlaadadbpffdaaGreatDoor
