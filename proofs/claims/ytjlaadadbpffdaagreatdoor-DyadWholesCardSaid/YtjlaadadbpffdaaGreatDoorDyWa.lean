/-
  Layer 3's laws, walked: DyadWholes (printed by dyadlaws.py).
-/
import Derived.Test.YtjlaadadbpffdaaGreatDoorDyN
import Derived.Test.YtjlaadadbpffdaaGreatDoorDyP
set_option linter.unusedSimpArgs false
set_option linter.unusedVariables false
namespace Go.Proofs.YtjlaadadbpffdaaGreatDoor
open Go.RowKit Go.Plumb

set_option maxRecDepth 100000 in
set_option maxHeartbeats 4000000 in
theorem w_DyadWholes (w : World) (hT : Tab w) (hQ : PowT Tryz.prog w) (x0 : Int) (h00 : -9223372036854775808 ≤ x0) (h01 : x0 ≤ 9223372036854775807) (x1 : Int) (h10 : -9223372036854775808 ≤ x1) (h11 : x1 ≤ 9223372036854775807) :
    Calls Tryz.prog 6 #[.int .i64 x0, .int .i64 x1] w fun e w' => e = .returned (.bool true) ∧ Below w.heap.size w w' := by
  have HS : Hid (At w w []) := Lib.hid (At.start w)
  obtain ⟨X, hX⟩ : ∃ X, nrm ⟨decide (x0 < 0), x0.natAbs, 0⟩ = X := ⟨_, rfl⟩
  have HX := Lib.hid hX
  have HLX : Hid (nrm ⟨decide (x0 < 0), x0.natAbs, 0⟩ = X → (limbs X.m).length ≤ 10000) := Lib.hid (by
    intro h
    rw [← h, nrm_m]
    exact Nat.le_trans (length_limbs_le _ 1 (by have := oddN_le x0.natAbs; show oddN x0.natAbs < _; simp; omega)) (by decide))
  clear hX
  by_cases hm : mayE x1
  · have HM := Lib.hid hm
    clear hm
    go_enter Tryz.func6, Tryz.ntmps6
    go_wp2_with fail
    refine (dHalf_any x1 HM.out).mono ?_
    rintro e w1 ⟨a_h, n_h, c_h, rfl, h0, hb⟩
    replace HS := Lib.hid (HS.out.num (by repeat' (first | exact Below.refl _ _ | refine below_alloc ?_ _)) hb h0)
    have L_h := Lib.hid h0.1
    clear hb h0
    go_wp2_with fail
    refine (rHalf3_any x1 HM.out).mono ?_
    rintro e w2 ⟨a_g, n_g, c_g, rfl, h0, hb⟩
    have B_h := Lib.hid (Boxed3.later (Boxed3.new w1 (false) a_h n_h c_h (x1) 24 (g := w1.heap.size) (by simp)) (by repeat' (first | exact Below.refl _ _ | refine below_alloc ?_ _)) hb)
    replace HS := Lib.hid (HS.out.num (by repeat' (first | exact Below.refl _ _ | refine below_alloc ?_ _)) hb h0)
    have L_g := Lib.hid h0.1
    clear hb h0
    go_wp2_with fail
    refine (dWhole_v x0 h00 h01 HX.out (hT.below (below_step HS.out.1 (by repeat' (first | exact Below.refl _ _ | refine below_alloc ?_ _))))).mono ?_
    rintro e w3 ⟨a_a, n_a, c_a, rfl, h0, hb⟩
    replace B_h := Lib.hid (B_h.out.later (by repeat' (first | exact Below.refl _ _ | refine below_alloc ?_ _)) hb)
    have B_g := Lib.hid (Boxed3.later (Boxed3.new w2 (false) a_g n_g c_g (x1) 24 (g := w2.heap.size) (by simp)) (by repeat' (first | exact Below.refl _ _ | refine below_alloc ?_ _)) hb)
    replace HS := Lib.hid (HS.out.num (by repeat' (first | exact Below.refl _ _ | refine below_alloc ?_ _)) hb h0)
    have L_a := Lib.hid h0.1
    clear hb h0
    go_wp2_with fail
    refine (rWhole3_any x0 h00 h01 HX.out).mono ?_
    rintro e w4 ⟨a_b, n_b, c_b, rfl, h0, hb⟩
    replace B_h := Lib.hid (B_h.out.later (by repeat' (first | exact Below.refl _ _ | refine below_alloc ?_ _)) hb)
    replace B_g := Lib.hid (B_g.out.later (by repeat' (first | exact Below.refl _ _ | refine below_alloc ?_ _)) hb)
    replace HS := Lib.hid (HS.out.num (by repeat' (first | exact Below.refl _ _ | refine below_alloc ?_ _)) hb h0)
    have L_b := Lib.hid h0.1
    clear hb h0
    go_wp2_with fail
    refine (rsame3_any X.s X.e (HS.out.get 1 rfl (by repeat' (first | exact Below.refl _ _ | refine below_alloc ?_ _))) (HS.out.get 0 rfl (by repeat' (first | exact Below.refl _ _ | refine below_alloc ?_ _))) rfl (HLX.out HX.out)).mono ?_
    rintro e w5 ⟨rfl, hb⟩
    replace B_h := Lib.hid (B_h.out.later (by repeat' (first | exact Below.refl _ _ | refine below_alloc ?_ _)) hb)
    replace B_g := Lib.hid (B_g.out.later (by repeat' (first | exact Below.refl _ _ | refine below_alloc ?_ _)) hb)
    replace HS := Lib.hid (HS.out.call (by repeat' (first | exact Below.refl _ _ | refine below_alloc ?_ _)) hb)
    clear hb
    obtain ⟨h0, h1, h2, _, _, _⟩ := id (B_h.out)
    obtain ⟨g0, g1, g2, _, _, _⟩ := id (B_g.out)
    go_wp2_with fail
    refine (rsame3_any false x1 (HS.out.get 3 rfl (by repeat' (first | exact Below.refl _ _ | refine below_alloc ?_ _))) (HS.out.get 2 rfl (by repeat' (first | exact Below.refl _ _ | refine below_alloc ?_ _))) rfl (by rw [limbs_o]; decide)).mono ?_
    rintro e w6 ⟨rfl, hb⟩
    replace B_h := Lib.hid (B_h.out.later (by repeat' (first | exact Below.refl _ _ | refine below_alloc ?_ _)) hb)
    replace B_g := Lib.hid (B_g.out.later (by repeat' (first | exact Below.refl _ _ | refine below_alloc ?_ _)) hb)
    clear h0 h1 h2 g0 g1 g2
    replace HS := Lib.hid (HS.out.call (by repeat' (first | exact Below.refl _ _ | refine below_alloc ?_ _)) hb)
    clear hb
    go_wp2_with fail
    refine (num3_any 0 _).mono ?_
    rintro e w' ⟨rfl, rfl⟩
    go_wp2_with fail
    refine (known3_any _ (hT.below (below_step HS.out.1 (by repeat' (first | exact Below.refl _ _ | refine below_alloc ?_ _)))) (PowT_below hQ (below_step HS.out.1 (by repeat' (first | exact Below.refl _ _ | refine below_alloc ?_ _))))).mono ?_
    rintro e w7 ⟨rfl, hb⟩
    replace B_h := Lib.hid (B_h.out.later (by repeat' (first | exact Below.refl _ _ | refine below_alloc ?_ _)) hb)
    replace B_g := Lib.hid (B_g.out.later (by repeat' (first | exact Below.refl _ _ | refine below_alloc ?_ _)) hb)
    replace HS := Lib.hid (HS.out.call (by repeat' (first | exact Below.refl _ _ | refine below_alloc ?_ _)) hb)
    clear hb
    go_wp2_with fail
    go_ret
    exact ⟨rfl, HS.out.1⟩
  · have HM := Lib.hid hm
    clear hm
    go_enter Tryz.func6, Tryz.ntmps6
    go_wp2_with fail
    refine (dHalf_bad x1 HM.out).mono ?_
    rintro e w1 ⟨rfl, hb⟩
    replace HS := Lib.hid (HS.out.call (by repeat' (first | exact Below.refl _ _ | refine below_alloc ?_ _)) hb)
    clear hb
    go_wp2_with fail
    refine (rHalf3_bad x1 HM.out).mono ?_
    rintro e w2 ⟨rfl, hb⟩
    have B_h := Lib.hid (Boxed3.later (Boxed3.new w1 (false) none 0 0 (0) 24 (g := w1.heap.size) (by simp)) (by repeat' (first | exact Below.refl _ _ | refine below_alloc ?_ _)) hb)
    replace HS := Lib.hid (HS.out.call (by repeat' (first | exact Below.refl _ _ | refine below_alloc ?_ _)) hb)
    clear hb
    go_wp2_with fail
    refine (dWhole_v x0 h00 h01 HX.out (hT.below (below_step HS.out.1 (by repeat' (first | exact Below.refl _ _ | refine below_alloc ?_ _))))).mono ?_
    rintro e w3 ⟨a_a, n_a, c_a, rfl, h0, hb⟩
    replace B_h := Lib.hid (B_h.out.later (by repeat' (first | exact Below.refl _ _ | refine below_alloc ?_ _)) hb)
    have B_g := Lib.hid (Boxed3.later (Boxed3.new w2 (false) none 0 0 (0) 24 (g := w2.heap.size) (by simp)) (by repeat' (first | exact Below.refl _ _ | refine below_alloc ?_ _)) hb)
    replace HS := Lib.hid (HS.out.num (by repeat' (first | exact Below.refl _ _ | refine below_alloc ?_ _)) hb h0)
    have L_a := Lib.hid h0.1
    clear hb h0
    go_wp2_with fail
    refine (rWhole3_any x0 h00 h01 HX.out).mono ?_
    rintro e w4 ⟨a_b, n_b, c_b, rfl, h0, hb⟩
    replace B_h := Lib.hid (B_h.out.later (by repeat' (first | exact Below.refl _ _ | refine below_alloc ?_ _)) hb)
    replace B_g := Lib.hid (B_g.out.later (by repeat' (first | exact Below.refl _ _ | refine below_alloc ?_ _)) hb)
    replace HS := Lib.hid (HS.out.num (by repeat' (first | exact Below.refl _ _ | refine below_alloc ?_ _)) hb h0)
    have L_b := Lib.hid h0.1
    clear hb h0
    go_wp2_with fail
    refine (rsame3_any X.s X.e (HS.out.get 1 rfl (by repeat' (first | exact Below.refl _ _ | refine below_alloc ?_ _))) (HS.out.get 0 rfl (by repeat' (first | exact Below.refl _ _ | refine below_alloc ?_ _))) rfl (HLX.out HX.out)).mono ?_
    rintro e w5 ⟨rfl, hb⟩
    replace B_h := Lib.hid (B_h.out.later (by repeat' (first | exact Below.refl _ _ | refine below_alloc ?_ _)) hb)
    replace B_g := Lib.hid (B_g.out.later (by repeat' (first | exact Below.refl _ _ | refine below_alloc ?_ _)) hb)
    replace HS := Lib.hid (HS.out.call (by repeat' (first | exact Below.refl _ _ | refine below_alloc ?_ _)) hb)
    clear hb
    obtain ⟨h0, h1, h2, _, _, _⟩ := id (B_h.out)
    obtain ⟨g0, g1, g2, _, _, _⟩ := id (B_g.out)
    go_wp2_with fail
    refine (rsame3_any false 0 (Num.nil _) (Num.nil _) rfl (by decide)).mono ?_
    rintro e w6 ⟨rfl, hb⟩
    replace B_h := Lib.hid (B_h.out.later (by repeat' (first | exact Below.refl _ _ | refine below_alloc ?_ _)) hb)
    replace B_g := Lib.hid (B_g.out.later (by repeat' (first | exact Below.refl _ _ | refine below_alloc ?_ _)) hb)
    clear h0 h1 h2 g0 g1 g2
    replace HS := Lib.hid (HS.out.call (by repeat' (first | exact Below.refl _ _ | refine below_alloc ?_ _)) hb)
    clear hb
    go_wp2_with fail
    refine (num3_any 3 _).mono ?_
    rintro e w' ⟨rfl, rfl⟩
    go_wp2_with fail
    refine (known3_any _ (hT.below (below_step HS.out.1 (by repeat' (first | exact Below.refl _ _ | refine below_alloc ?_ _)))) (PowT_below hQ (below_step HS.out.1 (by repeat' (first | exact Below.refl _ _ | refine below_alloc ?_ _))))).mono ?_
    rintro e w7 ⟨rfl, hb⟩
    replace B_h := Lib.hid (B_h.out.later (by repeat' (first | exact Below.refl _ _ | refine below_alloc ?_ _)) hb)
    replace B_g := Lib.hid (B_g.out.later (by repeat' (first | exact Below.refl _ _ | refine below_alloc ?_ _)) hb)
    replace HS := Lib.hid (HS.out.call (by repeat' (first | exact Below.refl _ _ | refine below_alloc ?_ _)) hb)
    clear hb
    go_wp2_with fail
    go_ret
    exact ⟨rfl, HS.out.1⟩
end Go.Proofs.YtjlaadadbpffdaaGreatDoor
