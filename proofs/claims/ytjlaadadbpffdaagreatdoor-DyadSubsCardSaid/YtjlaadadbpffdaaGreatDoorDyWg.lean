/-
  Layer 3's laws, walked: DyadShifts (printed by dyadlaws2.py).
-/
import Derived.Test.YtjlaadadbpffdaaGreatDoorDyT
import Derived.Test.YtjlaadadbpffdaaGreatDoorDyN
set_option linter.unusedSimpArgs false
set_option linter.unusedVariables false
namespace Go.Plumb
theorem nrm_len' (d : Dy) : (limbs (nrm d).m).length ≤ (limbs d.m).length := by rw [nrm_m]; exact length_mono (oddN_le _)
theorem doneO_len (d : Dy) : (limbs (doneO d).1.m).length ≤ (limbs d.m).length := by
  unfold doneO
  split
  · exact nrm_len' d
  · show (limbs 0).length ≤ _; rw [limbs_zero]; exact Nat.zero_le _
theorem zeroD_len (k : Nat) : (limbs zeroD.m).length ≤ k := by show (limbs 0).length ≤ _; rw [limbs_zero]; exact Nat.zero_le _
theorem shiftO_len (d : Dy) (k : Int) : (limbs (shiftO d k).1.m).length ≤ (limbs d.m).length := by
  unfold shiftO
  split
  · split
    · exact zeroD_len _
    · exact Nat.le_trans (doneO_len _) (nrm_len' d)
  · exact zeroD_len _
theorem normO_len (d : Dy) : (limbs (normO d).1.m).length ≤ (limbs d.m).length := by
  unfold normO
  split
  · exact doneO_len d
  · exact zeroD_len _
end Go.Plumb
namespace Go.Proofs.YtjlaadadbpffdaaGreatDoor
open Go.RowKit Go.Plumb

set_option maxRecDepth 100000 in
set_option maxHeartbeats 4000000 in
theorem w_DyadShifts (w : World) (hT : Tab w) (hQ : PowT Tryz.prog w) (sd : Bool) (d : Option Addr) (nd cd : Nat) (ld : List Nat) (ed : Int) (Hd : Num w d nd cd ld) (hd0 : -9223372036854775808 ≤ ed) (hd1 : ed ≤ 9223372036854775807) (x1 : Int) (h10 : -9223372036854775808 ≤ x1) (h11 : x1 ≤ 9223372036854775807) :
    Calls Tryz.prog 12 #[.agg #[.bool sd, .slice d nd cd, .int .i64 ed], .int .i64 x1] w fun e w' => e = .returned (.bool true) ∧ Below w.heap.size w w' := by
  have HS : Hid (At w w [(d, nd, cd, ld)]) := Lib.hid ⟨Below.refl _ _, Hd, trivial⟩
  have Id : Hid (nd = ld.length ∧ Limbs ld ∧ nd ≤ 9223372036854775807) := Lib.hid ⟨Hd.1, Hd.limbs, by have h1 := Hd.1; have h2 := Hd.2.1; have h3 := Hd.2.2.1; unfold maxLen at h3; omega⟩
  clear Hd
  have Xd := Boxed3.new w sd d nd cd ed 24 (g := w.heap.size) (by simp)
  have hlg : Hid (nd ≤ 9223372036854775807) := Lib.hid Id.out.2.2
  by_cases hc : (40 : Int) < (nd : Int)
  · have hd := decide_eq_true hc
    clear hc
    go_enter Tryz.func12, Tryz.ntmps12
    go_wp2_with fail
    refine (llong_any sd ed hlg.out).mono ?_
    rintro e w1 ⟨rfl, hb⟩
    have B_d := Lib.hid (Xd.below hb)
    replace HS := Lib.hid (HS.out.call (by repeat' (first | exact Below.refl _ _ | refine below_alloc ?_ _)) hb)
    clear hb Xd
    rw [hd]
    go_wp2_with fail
    refine (known3_any _ (hT.below (below_step HS.out.1 (by repeat' (first | exact Below.refl _ _ | refine below_alloc ?_ _)))) (PowT_below hQ (below_step HS.out.1 (by repeat' (first | exact Below.refl _ _ | refine below_alloc ?_ _))))).mono ?_
    rintro e w2 ⟨rfl, hb⟩
    replace B_d := Lib.hid (B_d.out.later (by repeat' (first | exact Below.refl _ _ | refine below_alloc ?_ _)) hb)
    replace HS := Lib.hid (HS.out.call (by repeat' (first | exact Below.refl _ _ | refine below_alloc ?_ _)) hb)
    clear hb
    go_wp2_with fail
    go_ret
    exact ⟨rfl, HS.out.1⟩
  · have hd := decide_eq_false hc
    have hl : ld.length ≤ 40 := by have := Id.out.1; omega
    have hl' : (limbs (valL ld)).length ≤ 40 := Nat.le_trans (len_of Id.out.2.1) hl
    obtain ⟨R, r, hO⟩ : ∃ R r, shiftO ⟨sd, valL ld, ed⟩ x1 = (R, r) := ⟨_, _, rfl⟩
    have hR : (limbs R.m).length ≤ 10000 := by
      have := shiftO_len ⟨sd, valL ld, ed⟩ x1
      rw [hO] at this
      exact Nat.le_trans this (Nat.le_trans hl' (by decide))
    have HO := Lib.hid (And.intro hO (And.intro hR (And.intro h10 (And.intro h11 hl))))
    clear hc hl hl' hO hR h10 h11
    go_enter Tryz.func12, Tryz.ntmps12
    go_wp2_with fail
    refine (llong_any sd ed hlg.out).mono ?_
    rintro e w1 ⟨rfl, hb⟩
    have B_d := Lib.hid (Xd.below hb)
    replace HS := Lib.hid (HS.out.call (by repeat' (first | exact Below.refl _ _ | refine below_alloc ?_ _)) hb)
    clear hb Xd
    rw [hd]
    obtain ⟨d0, d1, d2, _, _, _⟩ := id (B_d.out)
    go_wp2_with fail
    refine (dShift_any sd ed x1 R r HO.out.2.2.1 HO.out.2.2.2.1 (hT.below (below_step HS.out.1 (by repeat' (first | exact Below.refl _ _ | refine below_alloc ?_ _)))) (HS.out.get 0 rfl (by repeat' (first | exact Below.refl _ _ | refine below_alloc ?_ _))) (Nat.le_trans HO.out.2.2.2.2 (by decide)) HO.out.1).mono ?_
    rintro e w2 ⟨a_s, n_s, c_s, rfl, h0, hb⟩
    replace B_d := Lib.hid (B_d.out.later (by repeat' (first | exact Below.refl _ _ | refine below_alloc ?_ _)) hb)
    clear d0 d1 d2
    replace HS := Lib.hid (HS.out.num (by repeat' (first | exact Below.refl _ _ | refine below_alloc ?_ _)) hb h0)
    have L_s := Lib.hid h0.1
    clear hb h0
    obtain ⟨d0, d1, d2, _, _, _⟩ := id ((B_d.out).alloc (.cells #[.bool (R.s), .slice a_s n_s c_s, .int .i64 (R.e)] 24))
    go_wp2_with fail
    refine (rShift3_any sd ed x1 R r HO.out.2.2.1 HO.out.2.2.2.1 (HS.out.get 1 rfl (by repeat' (first | exact Below.refl _ _ | refine below_alloc ?_ _))) (Nat.le_trans HO.out.2.2.2.2 (by decide)) HO.out.1).mono ?_
    rintro e w3 ⟨a_x, n_x, c_x, rfl, h0, hb⟩
    replace B_d := Lib.hid (B_d.out.later (by repeat' (first | exact Below.refl _ _ | refine below_alloc ?_ _)) hb)
    have B_s := Lib.hid (Boxed3.later (Boxed3.new w2 (R.s) a_s n_s c_s (R.e) 24 (g := w2.heap.size) (by simp)) (by repeat' (first | exact Below.refl _ _ | refine below_alloc ?_ _)) hb)
    clear d0 d1 d2
    replace HS := Lib.hid (HS.out.num (by repeat' (first | exact Below.refl _ _ | refine below_alloc ?_ _)) hb h0)
    have L_x := Lib.hid h0.1
    clear hb h0
    obtain ⟨s0, s1, s2, _, _, _⟩ := id ((B_s.out).alloc (.cells #[.bool (R.s), .slice a_x n_x c_x, .int .i64 (R.e)] 24))
    go_wp2_with fail
    refine (rsame3_any R.s R.e (HS.out.get 1 rfl (by repeat' (first | exact Below.refl _ _ | refine below_alloc ?_ _))) (HS.out.get 0 rfl (by repeat' (first | exact Below.refl _ _ | refine below_alloc ?_ _))) rfl HO.out.2.1).mono ?_
    rintro e w4 ⟨rfl, hb⟩
    replace B_d := Lib.hid (B_d.out.later (by repeat' (first | exact Below.refl _ _ | refine below_alloc ?_ _)) hb)
    replace B_s := Lib.hid (B_s.out.later (by repeat' (first | exact Below.refl _ _ | refine below_alloc ?_ _)) hb)
    have B_x := Lib.hid (Boxed3.later (Boxed3.new w3 (R.s) a_x n_x c_x (R.e) 24 (g := w3.heap.size) (by simp)) (by repeat' (first | exact Below.refl _ _ | refine below_alloc ?_ _)) hb)
    clear s0 s1 s2
    replace HS := Lib.hid (HS.out.call (by repeat' (first | exact Below.refl _ _ | refine below_alloc ?_ _)) hb)
    clear hb
    go_wp2_with fail
    refine (num3_any r _).mono ?_
    rintro e w' ⟨rfl, rfl⟩
    go_wp2_with fail
    refine (known3_any _ (hT.below (below_step HS.out.1 (by repeat' (first | exact Below.refl _ _ | refine below_alloc ?_ _)))) (PowT_below hQ (below_step HS.out.1 (by repeat' (first | exact Below.refl _ _ | refine below_alloc ?_ _))))).mono ?_
    rintro e w5 ⟨rfl, hb⟩
    replace B_d := Lib.hid (B_d.out.later (by repeat' (first | exact Below.refl _ _ | refine below_alloc ?_ _)) hb)
    replace B_s := Lib.hid (B_s.out.later (by repeat' (first | exact Below.refl _ _ | refine below_alloc ?_ _)) hb)
    replace B_x := Lib.hid (B_x.out.later (by repeat' (first | exact Below.refl _ _ | refine below_alloc ?_ _)) hb)
    replace HS := Lib.hid (HS.out.call (by repeat' (first | exact Below.refl _ _ | refine below_alloc ?_ _)) hb)
    clear hb
    go_wp2_with fail
    go_ret
    exact ⟨rfl, HS.out.1⟩
end Go.Proofs.YtjlaadadbpffdaaGreatDoor
