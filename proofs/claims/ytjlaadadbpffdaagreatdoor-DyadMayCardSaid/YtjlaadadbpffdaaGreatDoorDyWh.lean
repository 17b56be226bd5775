/-
  Layer 3's laws, walked: DyadMay (printed by dyadlaws2.py).
-/
import Derived.Test.YtjlaadadbpffdaaGreatDoorDyWg
import Derived.Deep.RegionHeld3
set_option linter.unusedSimpArgs false
set_option linter.unusedVariables false
namespace Go.Proofs.YtjlaadadbpffdaaGreatDoor
open Go.RowKit Go.Plumb

theorem rDone3_v {w : World} {a : Option Addr} {n c : Nat} {l : List Nat} (s : Bool) (e : Int) (R : Dy) (r : Int) (h1 : Num w a n c l) (hl : l.length ≤ 4000) (hm : mayE e) (hO : doneO ⟨s, valL l, e⟩ = (R, r)) :
    Calls Tryz.prog 55 #[.agg #[.bool s, .slice a n c, .int .i64 e]] w fun x w' => ∃ a' n' c', x = .returned (.tuple #[.agg #[.bool R.s, .slice a' n' c', .int .i64 R.e], .int .i64 r]) ∧ Num w' a' n' c' (limbs R.m) ∧ Below w.heap.size w w' := by
  have := rDone3_any s e h1 hl (by unfold mayE at hm; omega) (by unfold mayE at hm; omega)
  simp only [hO] at this
  exact this
theorem rsame_z {w : World} {a : Option Addr} {n c : Nat} (h : Num w a n c (limbs zeroD.m)) :
    Calls Tryz.prog 27 #[.agg #[.bool zeroD.s, .slice a n c, .int .i64 zeroD.e], .agg #[.bool false, .slice none 0 0, .int .i64 0]] w fun z w' => z = .returned (.bool true) ∧ Below w.heap.size w w' :=
  rsame3_any false 0 h (Num.nil _) (by show limbs 0 = []; exact limbs_zero) (by show (limbs 0).length ≤ _; rw [limbs_zero]; decide)
set_option maxRecDepth 100000 in
set_option maxHeartbeats 4000000 in
theorem w_DyadMay (w : World) (hT : Tab w) (hQ : PowT Tryz.prog w) (sd : Bool) (d : Option Addr) (nd cd : Nat) (ld : List Nat) (ed : Int) (Hd : Num w d nd cd ld) (hd0 : -9223372036854775808 ≤ ed) (hd1 : ed ≤ 9223372036854775807) :
    Calls Tryz.prog 13 #[.agg #[.bool sd, .slice d nd cd, .int .i64 ed]] w fun e w' => e = .returned (.bool true) ∧ Below w.heap.size w w' := by
  have HS : Hid (At w w [(d, nd, cd, ld)]) := Lib.hid ⟨Below.refl _ _, Hd, trivial⟩
  have Id : Hid (nd = ld.length ∧ Limbs ld ∧ nd ≤ 9223372036854775807) := Lib.hid ⟨Hd.1, Hd.limbs, by have h1 := Hd.1; have h2 := Hd.2.1; have h3 := Hd.2.2.1; unfold maxLen at h3; omega⟩
  clear Hd
  have Xd := Boxed3.new w sd d nd cd ed 24 (g := w.heap.size) (by simp)
  have hlg : Hid (nd ≤ 9223372036854775807) := Lib.hid Id.out.2.2
  by_cases hc : (40 : Int) < (nd : Int)
  · have hd := decide_eq_true hc
    clear hc
    go_enter Tryz.func13, Tryz.ntmps13
    go_wp2_with fail
    refine (llong_any sd ed hlg.out).mono ?_
    rintro e w1 ⟨rfl, hb⟩
    have B_d := Lib.hid (Xd.below hb)
    replace HS := Lib.hid (HS.out.call (by repeat' (first | exact Below.refl _ _ | refine below_alloc ?_ _)) hb)
    clear hb Xd
    rw [hd]
    go_wp2_with fail
    refine (known3_any _ (hT.below (below_step HS.out.1 (by repeat' (first | exact Below.refl _ _ | refine below_alloc ?_ _)))) (PowT_below hQ (below_step HS.out.1 (by repeat' (first | exact Below.refl _ _ | refine below_alloc ?_ _))))).mono ?_
    rintro e w2 ⟨rfl, hb⟩
    replace B_d := Lib.hid (B_d.out.later (by repeat' (first | exact Below.refl _ _ | refine below_alloc ?_ _)) hb)
    replace HS := Lib.hid (HS.out.call (by repeat' (first | exact Below.refl _ _ | refine below_alloc ?_ _)) hb)
    clear hb
    go_wp2_with fail
    go_ret
    exact ⟨rfl, HS.out.1⟩
  · have hd := decide_eq_false hc
    have hl : ld.length ≤ 40 := by have := Id.out.1; omega
    have hl' : (limbs (valL ld)).length ≤ 40 := Nat.le_trans (len_of Id.out.2.1) hl
    obtain ⟨R1, r1, hO1⟩ : ∃ R r, normO ⟨sd, valL ld, ed⟩ = (R, r) := ⟨_, _, rfl⟩
    obtain ⟨R2, r2, hO2⟩ : ∃ R r, normO ⟨!sd, valL ld, ed⟩ = (R, r) := ⟨_, _, rfl⟩
    obtain ⟨R3, r3, hO3⟩ : ∃ R r, normO ⟨false, valL ld, ed⟩ = (R, r) := ⟨_, _, rfl⟩
    have g1 := normO_len ⟨sd, valL ld, ed⟩
    have g2 := normO_len ⟨!sd, valL ld, ed⟩
    have g3 := normO_len ⟨false, valL ld, ed⟩
    rw [hO1] at g1
    rw [hO2] at g2
    rw [hO3] at g3
    have HL : Hid ((limbs R1.m).length ≤ 10000 ∧ (limbs R2.m).length ≤ 10000 ∧ (limbs R3.m).length ≤ 10000 ∧ ld.length ≤ 4000) := Lib.hid ⟨Nat.le_trans g1 (Nat.le_trans hl' (by decide)), Nat.le_trans g2 (Nat.le_trans hl' (by decide)), Nat.le_trans g3 (Nat.le_trans hl' (by decide)), by omega⟩
    obtain ⟨z, hz⟩ : ∃ z, signO ⟨sd, valL ld, ed⟩ = z := ⟨_, rfl⟩
    have HZ := Lib.hid hz
    have hl40 : Hid (ld.length ≤ 40) := Lib.hid hl
    clear hc hl hl' g1 g2 g3 hz
    by_cases hm : mayE ed
    · have hmd := decide_eq_true hm
      have HD : Hid (doneO ⟨sd, valL ld, ed⟩ = (R1, r1)) := Lib.hid (by rw [← hO1]; unfold normO; rw [if_pos (by exact hm)])
      have HM := Lib.hid hm
      have HO := Lib.hid (And.intro hO1 (And.intro hO2 hO3))
      clear hO1 hO2 hO3 hm
      go_enter Tryz.func13, Tryz.ntmps13
      go_wp2_with fail
      refine (llong_any sd ed hlg.out).mono ?_
      rintro e w1 ⟨rfl, hb⟩
      have B_d := Lib.hid (Xd.below hb)
      replace HS := Lib.hid (HS.out.call (by repeat' (first | exact Below.refl _ _ | refine below_alloc ?_ _)) hb)
      clear hb Xd
      rw [hd]
      obtain ⟨d0, d1, d2, _, _, _⟩ := id (B_d.out)
      go_wp2_with fail
      refine (dNorm_v sd ed R1 r1 (hT.below (below_step HS.out.1 (by repeat' (first | exact Below.refl _ _ | refine below_alloc ?_ _)))) (HS.out.get 0 rfl (by repeat' (first | exact Below.refl _ _ | refine below_alloc ?_ _))) rfl (by have := HL.out.2.2.2; have := hl40.out; omega) HO.out.1).mono ?_
      rintro e w2 ⟨a_n, n_n, c_n, rfl, h0, hb⟩
      replace B_d := Lib.hid (B_d.out.later (by repeat' (first | exact Below.refl _ _ | refine below_alloc ?_ _)) hb)
      clear d0 d1 d2
      replace HS := Lib.hid (HS.out.num (by repeat' (first | exact Below.refl _ _ | refine below_alloc ?_ _)) hb h0)
      have L_n := Lib.hid h0.1
      clear hb h0
      obtain ⟨d0, d1, d2, _, _, _⟩ := id ((B_d.out).alloc (.cells #[.bool (R1.s), .slice a_n n_n c_n, .int .i64 (R1.e)] 24))
      go_wp2_with fail
      refine (dNeg_any sd ed R2 r2 (hT.below (below_step HS.out.1 (by repeat' (first | exact Below.refl _ _ | refine below_alloc ?_ _)))) (HS.out.get 1 rfl (by repeat' (first | exact Below.refl _ _ | refine below_alloc ?_ _))) HL.out.2.2.2 HO.out.2.1).mono ?_
      rintro e w3 ⟨a_a, n_a, c_a, rfl, h0, hb⟩
      replace B_d := Lib.hid (B_d.out.later (by repeat' (first | exact Below.refl _ _ | refine below_alloc ?_ _)) hb)
      have B_n := Lib.hid (Boxed3.later (Boxed3.new w2 (R1.s) a_n n_n c_n (R1.e) 24 (g := w2.heap.size) (by simp)) (by repeat' (first | exact Below.refl _ _ | refine below_alloc ?_ _)) hb)
      clear d0 d1 d2
      replace HS := Lib.hid (HS.out.num (by repeat' (first | exact Below.refl _ _ | refine below_alloc ?_ _)) hb h0)
      have L_a := Lib.hid h0.1
      clear hb h0
      obtain ⟨d0, d1, d2, _, _, _⟩ := id ((B_d.out).alloc (.cells #[.bool (R2.s), .slice a_a n_a c_a, .int .i64 (R2.e)] 24))
      go_wp2_with fail
      refine (dAbs_any sd ed R3 r3 (hT.below (below_step HS.out.1 (by repeat' (first | exact Below.refl _ _ | refine below_alloc ?_ _)))) (HS.out.get 2 rfl (by repeat' (first | exact Below.refl _ _ | refine below_alloc ?_ _))) HL.out.2.2.2 HO.out.2.2).mono ?_
      rintro e w4 ⟨a_b, n_b, c_b, rfl, h0, hb⟩
      replace B_d := Lib.hid (B_d.out.later (by repeat' (first | exact Below.refl _ _ | refine below_alloc ?_ _)) hb)
      replace B_n := Lib.hid (B_n.out.later (by repeat' (first | exact Below.refl _ _ | refine below_alloc ?_ _)) hb)
      have B_a := Lib.hid (Boxed3.later (Boxed3.new w3 (R2.s) a_a n_a c_a (R2.e) 24 (g := w3.heap.size) (by simp)) (by repeat' (first | exact Below.refl _ _ | refine below_alloc ?_ _)) hb)
      clear d0 d1 d2
      replace HS := Lib.hid (HS.out.num (by repeat' (first | exact Below.refl _ _ | refine below_alloc ?_ _)) hb h0)
      have L_b := Lib.hid h0.1
      clear hb h0
      obtain ⟨d0, d1, d2, _, _, _⟩ := id ((B_d.out).alloc (.cells #[.bool (R3.s), .slice a_b n_b c_b, .int .i64 (R3.e)] 24))
      go_wp2_with fail
      refine (rMay3_any sd ed (HS.out.get 3 rfl (by repeat' (first | exact Below.refl _ _ | refine below_alloc ?_ _))) HL.out.2.2.2).mono ?_
      rintro e w5 ⟨rfl, hb⟩
      replace B_d := Lib.hid (B_d.out.later (by repeat' (first | exact Below.refl _ _ | refine below_alloc ?_ _)) hb)
      replace B_n := Lib.hid (B_n.out.later (by repeat' (first | exact Below.refl _ _ | refine below_alloc ?_ _)) hb)
      replace B_a := Lib.hid (B_a.out.later (by repeat' (first | exact Below.refl _ _ | refine below_alloc ?_ _)) hb)
      have B_b := Lib.hid (Boxed3.later (Boxed3.new w4 (R3.s) a_b n_b c_b (R3.e) 24 (g := w4.heap.size) (by simp)) (by repeat' (first | exact Below.refl _ _ | refine below_alloc ?_ _)) hb)
      clear d0 d1 d2
      replace HS := Lib.hid (HS.out.call (by repeat' (first | exact Below.refl _ _ | refine below_alloc ?_ _)) hb)
      clear hb
      rw [hmd]
      obtain ⟨d0, d1, d2, _, _, _⟩ := id (B_d.out)
      go_wp2_with fail
      refine (rDone3_v sd ed R1 r1 (HS.out.get 3 rfl (by repeat' (first | exact Below.refl _ _ | refine below_alloc ?_ _))) HL.out.2.2.2 HM.out HD.out).mono ?_
      rintro e w6 ⟨a_m, n_m, c_m, rfl, h0, hb⟩
      replace B_d := Lib.hid (B_d.out.later (by repeat' (first | exact Below.refl _ _ | refine below_alloc ?_ _)) hb)
      replace B_n := Lib.hid (B_n.out.later (by repeat' (first | exact Below.refl _ _ | refine below_alloc ?_ _)) hb)
      replace B_a := Lib.hid (B_a.out.later (by repeat' (first | exact Below.refl _ _ | refine below_alloc ?_ _)) hb)
      replace B_b := Lib.hid (B_b.out.later (by repeat' (first | exact Below.refl _ _ | refine below_alloc ?_ _)) hb)
      clear d0 d1 d2
      replace HS := Lib.hid (HS.out.num (by repeat' (first | exact Below.refl _ _ | refine below_alloc ?_ _)) hb h0)
      have L_m := Lib.hid h0.1
      clear hb h0
      obtain ⟨d0, d1, d2, _, _, _⟩ := id ((B_d.out).alloc (.cells #[.bool (R1.s), .slice a_m n_m c_m, .int .i64 (R1.e)] 24))
      go_wp2_with fail
      refine (rNeg3_any sd ed R2 r2 (HS.out.get 4 rfl (by repeat' (first | exact Below.refl _ _ | refine below_alloc ?_ _))) HL.out.2.2.2 HO.out.2.1).mono ?_
      rintro e w7 ⟨a_y, n_y, c_y, rfl, h0, hb⟩
      replace B_d := Lib.hid (B_d.out.later (by repeat' (first | exact Below.refl _ _ | refine below_alloc ?_ _)) hb)
      replace B_n := Lib.hid (B_n.out.later (by repeat' (first | exact Below.refl _ _ | refine below_alloc ?_ _)) hb)
      replace B_a := Lib.hid (B_a.out.later (by repeat' (first | exact Below.refl _ _ | refine below_alloc ?_ _)) hb)
      replace B_b := Lib.hid (B_b.out.later (by repeat' (first | exact Below.refl _ _ | refine below_alloc ?_ _)) hb)
      have B_m := Lib.hid (Boxed3.later (Boxed3.new w6 (R1.s) a_m n_m c_m (R1.e) 24 (g := w6.heap.size) (by simp)) (by repeat' (first | exact Below.refl _ _ | refine below_alloc ?_ _)) hb)
      clear d0 d1 d2
      replace HS := Lib.hid (HS.out.num (by repeat' (first | exact Below.refl _ _ | refine below_alloc ?_ _)) hb h0)
      have L_y := Lib.hid h0.1
      clear hb h0
      obtain ⟨d0, d1, d2, _, _, _⟩ := id ((B_d.out).alloc (.cells #[.bool (R2.s), .slice a_y n_y c_y, .int .i64 (R2.e)] 24))
      go_wp2_with fail
      refine (rAbs3_any sd ed R3 r3 (HS.out.get 5 rfl (by repeat' (first | exact Below.refl _ _ | refine below_alloc ?_ _))) HL.out.2.2.2 HO.out.2.2).mono ?_
      rintro e w8 ⟨a_v, n_v, c_v, rfl, h0, hb⟩
      replace B_d := Lib.hid (B_d.out.later (by repeat' (first | exact Below.refl _ _ | refine below_alloc ?_ _)) hb)
      replace B_n := Lib.hid (B_n.out.later (by repeat' (first | exact Below.refl _ _ | refine below_alloc ?_ _)) hb)
      replace B_a := Lib.hid (B_a.out.later (by repeat' (first | exact Below.refl _ _ | refine below_alloc ?_ _)) hb)
      replace B_b := Lib.hid (B_b.out.later (by repeat' (first | exact Below.refl _ _ | refine below_alloc ?_ _)) hb)
      replace B_m := Lib.hid (B_m.out.later (by repeat' (first | exact Below.refl _ _ | refine below_alloc ?_ _)) hb)
      have B_y := Lib.hid (Boxed3.later (Boxed3.new w7 (R2.s) a_y n_y c_y (R2.e) 24 (g := w7.heap.size) (by simp)) (by repeat' (first | exact Below.refl _ _ | refine below_alloc ?_ _)) hb)
      clear d0 d1 d2
      replace HS := Lib.hid (HS.out.num (by repeat' (first | exact Below.refl _ _ | refine below_alloc ?_ _)) hb h0)
      have L_v := Lib.hid h0.1
      clear hb h0
      go_wp2_with fail
      have hb : Below (w8.alloc (.cells #[.bool (R3.s), .slice a_v n_v c_v, .int .i64 (R3.e)] 24)).heap.size (w8.alloc (.cells #[.bool (R3.s), .slice a_v n_v c_v, .int .i64 (R3.e)] 24)) (w8.alloc (.cells #[.bool (R3.s), .slice a_v n_v c_v, .int .i64 (R3.e)] 24)) := Below.refl _ _
      replace B_d := Lib.hid (B_d.out.later (by repeat' (first | exact Below.refl _ _ | refine below_alloc ?_ _)) hb)
      replace B_n := Lib.hid (B_n.out.later (by repeat' (first | exact Below.refl _ _ | refine below_alloc ?_ _)) hb)
      replace B_a := Lib.hid (B_a.out.later (by repeat' (first | exact Below.refl _ _ | refine below_alloc ?_ _)) hb)
      replace B_b := Lib.hid (B_b.out.later (by repeat' (first | exact Below.refl _ _ | refine below_alloc ?_ _)) hb)
      replace B_m := Lib.hid (B_m.out.later (by repeat' (first | exact Below.refl _ _ | refine below_alloc ?_ _)) hb)
      replace B_y := Lib.hid (B_y.out.later (by repeat' (first | exact Below.refl _ _ | refine below_alloc ?_ _)) hb)
      have B_v := Lib.hid (Boxed3.later (Boxed3.new w8 (R3.s) a_v n_v c_v (R3.e) 24 (g := w8.heap.size) (by simp)) (by repeat' (first | exact Below.refl _ _ | refine below_alloc ?_ _)) hb)
      replace HS := Lib.hid (HS.out.call (by repeat' (first | exact Below.refl _ _ | refine below_alloc ?_ _)) hb)
      clear hb
      generalize (w8.alloc (.cells #[.bool (R3.s), .slice a_v n_v c_v, .int .i64 (R3.e)] 24)) = w9 at *
      have HSS : Hid (∀ wx, Below w9.heap.size w9 wx → Below w9.heap.size w9 wx ∧ wx.cell? ⟨w.heap.size, 0, none⟩ = some (.bool sd) ∧ wx.cell? ⟨w.heap.size, 1, none⟩ = some (.slice d nd cd) ∧ wx.cell? ⟨w.heap.size, 2, none⟩ = some (.int .i64 (ed)) ∧ wx.cell? ⟨w2.heap.size, 0, none⟩ = some (.bool R1.s) ∧ wx.cell? ⟨w2.heap.size, 1, none⟩ = some (.slice a_n n_n c_n) ∧ wx.cell? ⟨w2.heap.size, 2, none⟩ = some (.int .i64 (R1.e)) ∧ wx.cell? ⟨w3.heap.size, 0, none⟩ = some (.bool R2.s) ∧ wx.cell? ⟨w3.heap.size, 1, none⟩ = some (.slice a_a n_a c_a) ∧ wx.cell? ⟨w3.heap.size, 2, none⟩ = some (.int .i64 (R2.e)) ∧ wx.cell? ⟨w4.heap.size, 0, none⟩ = some (.bool R3.s) ∧ wx.cell? ⟨w4.heap.size, 1, none⟩ = some (.slice a_b n_b c_b) ∧ wx.cell? ⟨w4.heap.size, 2, none⟩ = some (.int .i64 (R3.e)) ∧ wx.cell? ⟨w6.heap.size, 0, none⟩ = some (.bool R1.s) ∧ wx.cell? ⟨w6.heap.size, 1, none⟩ = some (.slice a_m n_m c_m) ∧ wx.cell? ⟨w6.heap.size, 2, none⟩ = some (.int .i64 (R1.e)) ∧ wx.cell? ⟨w7.heap.size, 0, none⟩ = some (.bool R2.s) ∧ wx.cell? ⟨w7.heap.size, 1, none⟩ = some (.slice a_y n_y c_y) ∧ wx.cell? ⟨w7.heap.size, 2, none⟩ = some (.int .i64 (R2.e)) ∧ wx.cell? ⟨w8.heap.size, 0, none⟩ = some (.bool R3.s) ∧ wx.cell? ⟨w8.heap.size, 1, none⟩ = some (.slice a_v n_v c_v) ∧ wx.cell? ⟨w8.heap.size, 2, none⟩ = some (.int .i64 (R3.e))) := Lib.hid (fun wx h => ⟨h, (B_d.out.below h).c0, (B_d.out.below h).c1, (B_d.out.below h).c2, (B_n.out.below h).c0, (B_n.out.below h).c1, (B_n.out.below h).c2, (B_a.out.below h).c0, (B_a.out.below h).c1, (B_a.out.below h).c2, (B_b.out.below h).c0, (B_b.out.below h).c1, (B_b.out.below h).c2, (B_m.out.below h).c0, (B_m.out.below h).c1, (B_m.out.below h).c2, (B_y.out.below h).c0, (B_y.out.below h).c1, (B_y.out.below h).c2, (B_v.out.below h).c0, (B_v.out.below h).c1, (B_v.out.below h).c2⟩)
      have HB0 := Below.refl w9.heap.size w9
      have HT := Lib.hid (hT.below HS.out.1)
      have HQ := Lib.hid (PowT_below hQ HS.out.1)
      have f1 := fun wx (h : Below w9.heap.size w9 wx) => may_any sd ed (HS.out.get 6 rfl h) HL.out.2.2.2
      simp only [hmd] at f1
      have f2 := fun wx (h : Below w9.heap.size w9 wx) => dSign_v sd ed z (HT.out.below h) (HS.out.get 6 rfl h) rfl (by have := hl40.out; omega) HZ.out
      have g2 := fun wx (h : Below w9.heap.size w9 wx) => known3_any wx (HT.out.below h) (PowT_below HQ.out h)
      have f3 := fun wx (h : Below w9.heap.size w9 wx) => rSign3_any sd ed z (HS.out.get 6 rfl h) HL.out.2.2.2 HM.out HZ.out
      have f4 := fun wx (h : Below w9.heap.size w9 wx) => rsame3_any R1.s R1.e (HS.out.get 5 rfl h) (HS.out.get 2 rfl h) rfl HL.out.1
      have f5 := fun wx (h : Below w9.heap.size w9 wx) => rsame3_any R2.s R2.e (HS.out.get 4 rfl h) (HS.out.get 1 rfl h) rfl HL.out.2.1
      have f6 := fun wx (h : Below w9.heap.size w9 wx) => rsame3_any R3.s R3.e (HS.out.get 3 rfl h) (HS.out.get 0 rfl h) rfl HL.out.2.2.1
      have e1 := hmd
      clear hmd hd
      have hd := e1
      clear e1
      clear B_d B_n B_a B_b B_m B_y B_v hT hQ 
      go_region_held3 (fun wx => Below w9.heap.size w9 wx ∧ wx.cell? ⟨w.heap.size, 0, none⟩ = some (.bool sd) ∧ wx.cell? ⟨w.heap.size, 1, none⟩ = some (.slice d nd cd) ∧ wx.cell? ⟨w.heap.size, 2, none⟩ = some (.int .i64 (ed)) ∧ wx.cell? ⟨w2.heap.size, 0, none⟩ = some (.bool R1.s) ∧ wx.cell? ⟨w2.heap.size, 1, none⟩ = some (.slice a_n n_n c_n) ∧ wx.cell? ⟨w2.heap.size, 2, none⟩ = some (.int .i64 (R1.e)) ∧ wx.cell? ⟨w3.heap.size, 0, none⟩ = some (.bool R2.s) ∧ wx.cell? ⟨w3.heap.size, 1, none⟩ = some (.slice a_a n_a c_a) ∧ wx.cell? ⟨w3.heap.size, 2, none⟩ = some (.int .i64 (R2.e)) ∧ wx.cell? ⟨w4.heap.size, 0, none⟩ = some (.bool R3.s) ∧ wx.cell? ⟨w4.heap.size, 1, none⟩ = some (.slice a_b n_b c_b) ∧ wx.cell? ⟨w4.heap.size, 2, none⟩ = some (.int .i64 (R3.e)) ∧ wx.cell? ⟨w6.heap.size, 0, none⟩ = some (.bool R1.s) ∧ wx.cell? ⟨w6.heap.size, 1, none⟩ = some (.slice a_m n_m c_m) ∧ wx.cell? ⟨w6.heap.size, 2, none⟩ = some (.int .i64 (R1.e)) ∧ wx.cell? ⟨w7.heap.size, 0, none⟩ = some (.bool R2.s) ∧ wx.cell? ⟨w7.heap.size, 1, none⟩ = some (.slice a_y n_y c_y) ∧ wx.cell? ⟨w7.heap.size, 2, none⟩ = some (.int .i64 (R2.e)) ∧ wx.cell? ⟨w8.heap.size, 0, none⟩ = some (.bool R3.s) ∧ wx.cell? ⟨w8.heap.size, 1, none⟩ = some (.slice a_v n_v c_v) ∧ wx.cell? ⟨w8.heap.size, 2, none⟩ = some (.int .i64 (R3.e))) (first | exact HSS.out _ (by assumption) | exact HSS.out _ (Below.drew (by assumption))) ((first | (go_at_call 54; (with_reducible first | refine (f1 _ (by first | assumption | exact Below.drew (by assumption))).mono ?_); rintro e wz ⟨rfl, hb⟩; have HB0 := below_step (w0 := w9) (by first | assumption | exact Below.drew (by assumption)) hb; clear hb) | (go_at_call 48; (with_reducible first | refine (f2 _ (by first | assumption | exact Below.drew (by assumption))).mono ?_); rintro e wz ⟨rfl, hb⟩; have HB0 := below_step (w0 := w9) (by first | assumption | exact Below.drew (by assumption)) hb; clear hb) | (go_at_call 58; (with_reducible first | refine (f3 _ (by first | assumption | exact Below.drew (by assumption))).mono ?_); rintro e wz ⟨rfl, hb⟩; have HB0 := below_step (w0 := w9) (by first | assumption | exact Below.drew (by assumption)) hb; clear hb) | (go_at_call 27; (with_reducible first | refine (f4 _ (by first | assumption | exact Below.drew (by assumption))).mono ?_ | refine (f5 _ (by first | assumption | exact Below.drew (by assumption))).mono ?_ | refine (f6 _ (by first | assumption | exact Below.drew (by assumption))).mono ?_); rintro e wz ⟨rfl, hb⟩; have HB0 := below_step (w0 := w9) (by first | assumption | exact Below.drew (by assumption)) hb; clear hb) | (go_at_call 28; (with_reducible first | refine (num3_any _ _).mono ?_); rintro e w' ⟨rfl, rfl⟩) | (go_at_call 29; (with_reducible first | refine (g2 _ (by first | assumption | exact Below.drew (by assumption))).mono ?_); rintro e wz ⟨rfl, hb⟩; have HB0 := below_step (w0 := w9) (by first | assumption | exact Below.drew (by assumption)) hb; clear hb)))
      all_goals go_wp2_with fail
      all_goals go_ret
      all_goals exact ⟨rfl, below_step HS.out.1 (by first | assumption | exact Below.drew (by assumption))⟩
    · have hmd := decide_eq_false hm
      have b1 : zeroD = R1 ∧ (2 : Int) = r1 := by
        unfold normO at hO1
        rw [if_neg (by exact hm)] at hO1
        exact ⟨congrArg Prod.fst hO1, congrArg Prod.snd hO1⟩
      have b2 : zeroD = R2 ∧ (2 : Int) = r2 := by
        unfold normO at hO2
        rw [if_neg (by exact hm)] at hO2
        exact ⟨congrArg Prod.fst hO2, congrArg Prod.snd hO2⟩
      have b3 : zeroD = R3 ∧ (2 : Int) = r3 := by
        unfold normO at hO3
        rw [if_neg (by exact hm)] at hO3
        exact ⟨congrArg Prod.fst hO3, congrArg Prod.snd hO3⟩
      obtain ⟨rfl, rfl⟩ := b1
      obtain ⟨rfl, rfl⟩ := b2
      obtain ⟨rfl, rfl⟩ := b3
      have b4 : (0 : Int) = z := by
        have := HZ.out
        unfold signO at this
        rw [if_neg (by exact hm)] at this
        exact this
      subst b4
      have HO := Lib.hid (And.intro hO1 (And.intro hO2 hO3))
      clear hO1 hO2 hO3 hm
      go_enter Tryz.func13, Tryz.ntmps13
      go_wp2_with fail
      refine (llong_any sd ed hlg.out).mono ?_
      rintro e w1 ⟨rfl, hb⟩
      have B_d := Lib.hid (Xd.below hb)
      replace HS := Lib.hid (HS.out.call (by repeat' (first | exact Below.refl _ _ | refine below_alloc ?_ _)) hb)
      clear hb Xd
      rw [hd]
      obtain ⟨d0, d1, d2, _, _, _⟩ := id (B_d.out)
      go_wp2_with fail
      refine (dNorm_v sd ed zeroD 2 (hT.below (below_step HS.out.1 (by repeat' (first | exact Below.refl _ _ | refine below_alloc ?_ _)))) (HS.out.get 0 rfl (by repeat' (first | exact Below.refl _ _ | refine below_alloc ?_ _))) rfl (by have := HL.out.2.2.2; have := hl40.out; omega) HO.out.1).mono ?_
      rintro e w2 ⟨a_n, n_n, c_n, rfl, h0, hb⟩
      replace B_d := Lib.hid (B_d.out.later (by repeat' (first | exact Below.refl _ _ | refine below_alloc ?_ _)) hb)
      clear d0 d1 d2
      replace HS := Lib.hid (HS.out.num (by repeat' (first | exact Below.refl _ _ | refine below_alloc ?_ _)) hb h0)
      have L_n := Lib.hid h0.1
      clear hb h0
      obtain ⟨d0, d1, d2, _, _, _⟩ := id ((B_d.out).alloc (.cells #[.bool (zeroD.s), .slice a_n n_n c_n, .int .i64 (zeroD.e)] 24))
      go_wp2_with fail
      refine (dNeg_any sd ed zeroD 2 (hT.below (below_step HS.out.1 (by repeat' (first | exact Below.refl _ _ | refine below_alloc ?_ _)))) (HS.out.get 1 rfl (by repeat' (first | exact Below.refl _ _ | refine below_alloc ?_ _))) HL.out.2.2.2 HO.out.2.1).mono ?_
      rintro e w3 ⟨a_a, n_a, c_a, rfl, h0, hb⟩
      replace B_d := Lib.hid (B_d.out.later (by repeat' (first | exact Below.refl _ _ | refine below_alloc ?_ _)) hb)
      have B_n := Lib.hid (Boxed3.later (Boxed3.new w2 (zeroD.s) a_n n_n c_n (zeroD.e) 24 (g := w2.heap.size) (by simp)) (by repeat' (first | exact Below.refl _ _ | refine below_alloc ?_ _)) hb)
      clear d0 d1 d2
      replace HS := Lib.hid (HS.out.num (by repeat' (first | exact Below.refl _ _ | refine below_alloc ?_ _)) hb h0)
      have L_a := Lib.hid h0.1
      clear hb h0
      obtain ⟨d0, d1, d2, _, _, _⟩ := id ((B_d.out).alloc (.cells #[.bool (zeroD.s), .slice a_a n_a c_a, .int .i64 (zeroD.e)] 24))
      go_wp2_with fail
      refine (dAbs_any sd ed zeroD 2 (hT.below (below_step HS.out.1 (by repeat' (first | exact Below.refl _ _ | refine below_alloc ?_ _)))) (HS.out.get 2 rfl (by repeat' (first | exact Below.refl _ _ | refine below_alloc ?_ _))) HL.out.2.2.2 HO.out.2.2).mono ?_
      rintro e w4 ⟨a_b, n_b, c_b, rfl, h0, hb⟩
      replace B_d := Lib.hid (B_d.out.later (by repeat' (first | exact Below.refl _ _ | refine below_alloc ?_ _)) hb)
      replace B_n := Lib.hid (B_n.out.later (by repeat' (first | exact Below.refl _ _ | refine below_alloc ?_ _)) hb)
      have B_a := Lib.hid (Boxed3.later (Boxed3.new w3 (zeroD.s) a_a n_a c_a (zeroD.e) 24 (g := w3.heap.size) (by simp)) (by repeat' (first | exact Below.refl _ _ | refine below_alloc ?_ _)) hb)
      clear d0 d1 d2
      replace HS := Lib.hid (HS.out.num (by repeat' (first | exact Below.refl _ _ | refine below_alloc ?_ _)) hb h0)
      have L_b := Lib.hid h0.1
      clear hb h0
      obtain ⟨d0, d1, d2, _, _, _⟩ := id ((B_d.out).alloc (.cells #[.bool (zeroD.s), .slice a_b n_b c_b, .int .i64 (zeroD.e)] 24))
      go_wp2_with fail
      refine (rMay3_any sd ed (HS.out.get 3 rfl (by repeat' (first | exact Below.refl _ _ | refine below_alloc ?_ _))) HL.out.2.2.2).mono ?_
      rintro e w5 ⟨rfl, hb⟩
      replace B_d := Lib.hid (B_d.out.later (by repeat' (first | exact Below.refl _ _ | refine below_alloc ?_ _)) hb)
      replace B_n := Lib.hid (B_n.out.later (by repeat' (first | exact Below.refl _ _ | refine below_alloc ?_ _)) hb)
      replace B_a := Lib.hid (B_a.out.later (by repeat' (first | exact Below.refl _ _ | refine below_alloc ?_ _)) hb)
      have B_b := Lib.hid (Boxed3.later (Boxed3.new w4 (zeroD.s) a_b n_b c_b (zeroD.e) 24 (g := w4.heap.size) (by simp)) (by repeat' (first | exact Below.refl _ _ | refine below_alloc ?_ _)) hb)
      clear d0 d1 d2
      replace HS := Lib.hid (HS.out.call (by repeat' (first | exact Below.refl _ _ | refine below_alloc ?_ _)) hb)
      clear hb
      rw [hmd]
      obtain ⟨d0, d1, d2, _, _, _⟩ := id (B_d.out)
      go_wp2_with fail
      refine (may_any sd ed (HS.out.get 3 rfl (by repeat' (first | exact Below.refl _ _ | refine below_alloc ?_ _))) HL.out.2.2.2).mono ?_
      rintro e w6 ⟨rfl, hb⟩
      replace B_d := Lib.hid (B_d.out.later (by repeat' (first | exact Below.refl _ _ | refine below_alloc ?_ _)) hb)
      replace B_n := Lib.hid (B_n.out.later (by repeat' (first | exact Below.refl _ _ | refine below_alloc ?_ _)) hb)
      replace B_a := Lib.hid (B_a.out.later (by repeat' (first | exact Below.refl _ _ | refine below_alloc ?_ _)) hb)
      replace B_b := Lib.hid (B_b.out.later (by repeat' (first | exact Below.refl _ _ | refine below_alloc ?_ _)) hb)
      clear d0 d1 d2
      replace HS := Lib.hid (HS.out.call (by repeat' (first | exact Below.refl _ _ | refine below_alloc ?_ _)) hb)
      clear hb
      rw [hmd]
      obtain ⟨d0, d1, d2, _, _, _⟩ := id (B_d.out)
      go_wp2_with fail
      refine (dSign_v sd ed 0 (hT.below (below_step HS.out.1 (by repeat' (first | exact Below.refl _ _ | refine below_alloc ?_ _)))) (HS.out.get 3 rfl (by repeat' (first | exact Below.refl _ _ | refine below_alloc ?_ _))) rfl (by have := hl40.out; omega) HZ.out).mono ?_
      rintro e w7 ⟨rfl, hb⟩
      replace B_d := Lib.hid (B_d.out.later (by repeat' (first | exact Below.refl _ _ | refine below_alloc ?_ _)) hb)
      replace B_n := Lib.hid (B_n.out.later (by repeat' (first | exact Below.refl _ _ | refine below_alloc ?_ _)) hb)
      replace B_a := Lib.hid (B_a.out.later (by repeat' (first | exact Below.refl _ _ | refine below_alloc ?_ _)) hb)
      replace B_b := Lib.hid (B_b.out.later (by repeat' (first | exact Below.refl _ _ | refine below_alloc ?_ _)) hb)
      clear d0 d1 d2
      replace HS := Lib.hid (HS.out.call (by repeat' (first | exact Below.refl _ _ | refine below_alloc ?_ _)) hb)
      clear hb
      obtain ⟨n0, n1, n2, _, _, _⟩ := id (B_n.out)
      go_wp2_with fail
      refine (rsame_z (HS.out.get 2 rfl (by repeat' (first | exact Below.refl _ _ | refine below_alloc ?_ _)))).mono ?_
      rintro e w8 ⟨rfl, hb⟩
      replace B_d := Lib.hid (B_d.out.later (by repeat' (first | exact Below.refl _ _ | refine below_alloc ?_ _)) hb)
      replace B_n := Lib.hid (B_n.out.later (by repeat' (first | exact Below.refl _ _ | refine below_alloc ?_ _)) hb)
      replace B_a := Lib.hid (B_a.out.later (by repeat' (first | exact Below.refl _ _ | refine below_alloc ?_ _)) hb)
      replace B_b := Lib.hid (B_b.out.later (by repeat' (first | exact Below.refl _ _ | refine below_alloc ?_ _)) hb)
      clear n0 n1 n2
      replace HS := Lib.hid (HS.out.call (by repeat' (first | exact Below.refl _ _ | refine below_alloc ?_ _)) hb)
      clear hb
      obtain ⟨a0, a1, a2, _, _, _⟩ := id (B_a.out)
      obtain ⟨n0, n1, n2, _, _, _⟩ := id (B_n.out)
      go_wp2_with fail
      refine (rsame3_any zeroD.s zeroD.e (HS.out.get 1 rfl (by repeat' (first | exact Below.refl _ _ | refine below_alloc ?_ _))) (HS.out.get 2 rfl (by repeat' (first | exact Below.refl _ _ | refine below_alloc ?_ _))) rfl (by show (limbs 0).length ≤ _; rw [limbs_zero]; decide)).mono ?_
      rintro e w9 ⟨rfl, hb⟩
      replace B_d := Lib.hid (B_d.out.later (by repeat' (first | exact Below.refl _ _ | refine below_alloc ?_ _)) hb)
      replace B_n := Lib.hid (B_n.out.later (by repeat' (first | exact Below.refl _ _ | refine below_alloc ?_ _)) hb)
      replace B_a := Lib.hid (B_a.out.later (by repeat' (first | exact Below.refl _ _ | refine below_alloc ?_ _)) hb)
      replace B_b := Lib.hid (B_b.out.later (by repeat' (first | exact Below.refl _ _ | refine below_alloc ?_ _)) hb)
      clear a0 a1 a2 n0 n1 n2
      replace HS := Lib.hid (HS.out.call (by repeat' (first | exact Below.refl _ _ | refine below_alloc ?_ _)) hb)
      clear hb
      obtain ⟨b0, b1, b2, _, _, _⟩ := id (B_b.out)
      obtain ⟨n0, n1, n2, _, _, _⟩ := id (B_n.out)
      go_wp2_with fail
      refine (rsame3_any zeroD.s zeroD.e (HS.out.get 0 rfl (by repeat' (first | exact Below.refl _ _ | refine below_alloc ?_ _))) (HS.out.get 2 rfl (by repeat' (first | exact Below.refl _ _ | refine below_alloc ?_ _))) rfl (by show (limbs 0).length ≤ _; rw [limbs_zero]; decide)).mono ?_
      rintro e w10 ⟨rfl, hb⟩
      replace B_d := Lib.hid (B_d.out.later (by repeat' (first | exact Below.refl _ _ | refine below_alloc ?_ _)) hb)
      replace B_n := Lib.hid (B_n.out.later (by repeat' (first | exact Below.refl _ _ | refine below_alloc ?_ _)) hb)
      replace B_a := Lib.hid (B_a.out.later (by repeat' (first | exact Below.refl _ _ | refine below_alloc ?_ _)) hb)
      replace B_b := Lib.hid (B_b.out.later (by repeat' (first | exact Below.refl _ _ | refine below_alloc ?_ _)) hb)
      clear b0 b1 b2 n0 n1 n2
      replace HS := Lib.hid (HS.out.call (by repeat' (first | exact Below.refl _ _ | refine below_alloc ?_ _)) hb)
      clear hb
      go_wp2_with fail
      refine (num3_any 2 _).mono ?_
      rintro e w' ⟨rfl, rfl⟩
      go_wp2_with fail
      refine (num3_any 2 _).mono ?_
      rintro e w' ⟨rfl, rfl⟩
      go_wp2_with fail
      refine (num3_any 2 _).mono ?_
      rintro e w' ⟨rfl, rfl⟩
      go_wp2_with fail
      refine (known3_any _ (hT.below (below_step HS.out.1 (by repeat' (first | exact Below.refl _ _ | refine below_alloc ?_ _)))) (PowT_below hQ (below_step HS.out.1 (by repeat' (first | exact Below.refl _ _ | refine below_alloc ?_ _))))).mono ?_
      rintro e w11 ⟨rfl, hb⟩
      replace B_d := Lib.hid (B_d.out.later (by repeat' (first | exact Below.refl _ _ | refine below_alloc ?_ _)) hb)
      replace B_n := Lib.hid (B_n.out.later (by repeat' (first | exact Below.refl _ _ | refine below_alloc ?_ _)) hb)
      replace B_a := Lib.hid (B_a.out.later (by repeat' (first | exact Below.refl _ _ | refine below_alloc ?_ _)) hb)
      replace B_b := Lib.hid (B_b.out.later (by repeat' (first | exact Below.refl _ _ | refine below_alloc ?_ _)) hb)
      replace HS := Lib.hid (HS.out.call (by repeat' (first | exact Below.refl _ _ | refine below_alloc ?_ _)) hb)
      clear hb
      go_wp2_with fail
      go_ret
      exact ⟨rfl, HS.out.1⟩
end Go.Proofs.YtjlaadadbpffdaaGreatDoor
