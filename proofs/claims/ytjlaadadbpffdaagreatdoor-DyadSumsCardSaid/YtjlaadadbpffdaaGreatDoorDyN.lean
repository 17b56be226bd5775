/-
  The law package of layer 3: known, the chapter's rows (printed by dyadknown.py).
-/
import Derived.Test.YtjlaadadbpffdaaGreatDoorDyM
set_option linter.unusedSimpArgs false
set_option linter.unusedVariables false
namespace Go.Plumb
open Go.RowKit
theorem w_one : nrm (dyW 4607182418800017408) = ⟨false, 1, 0⟩ := by rw [nrm_is 1 52 (by decide) (by decide)]; rfl
theorem w_half : nrm (dyW 4602678819172646912) = ⟨false, 1, -1⟩ := by rw [nrm_is 1 52 (by decide) (by decide)]; rfl
theorem w_msix : nrm (dyW 13841813454723219456) = ⟨true, 3, 1⟩ := by rw [nrm_is 3 51 (by decide) (by decide)]; rfl
theorem w_tenth : nrm (dyW 4591870180066957722) = ⟨false, 3602879701896397, -55⟩ := by rw [nrm_is 3602879701896397 1 (by decide) (by decide)]; rfl
theorem w_mzero : nrm (dyW 9223372036854775808) = zeroD := nrm_zero (by decide)
theorem n_whole0 : nrm ⟨decide ((0 : Int) < 0), (0 : Int).natAbs, 0⟩ = zeroD := nrm_zero rfl
theorem n_whole3 : nrm ⟨decide ((3 : Int) < 0), (3 : Int).natAbs, 0⟩ = ⟨false, 3, 0⟩ := nrm_o (by decide)
theorem n_whole10 : nrm ⟨decide ((10 : Int) < 0), (10 : Int).natAbs, 0⟩ = ⟨false, 5, 1⟩ := by rw [nrm_is 5 1 (by decide) (by decide)]; rfl
theorem len_le_one {x : Nat} (h : x < 18446744073709551616) : (limbs x).length ≤ 1 := length_limbs_le x 1 (by simpa using h)
theorem k_add1 : addO ⟨false, 1, 0⟩ ⟨false, 1, -60⟩ = (⟨false, 1152921504606846977, -60⟩, 0) := addO_is (X := ⟨false, 1, 0⟩) (Y := ⟨false, 1, -60⟩) (D := ⟨false, 1152921504606846977, -60⟩) (by decide) (by decide) (nrm_o (by decide)) (nrm_o (by decide)) (by decide) rfl (nrm_o (by decide)) (by decide)
theorem k_add2 : addO ⟨false, 1, 0⟩ ⟨false, 1, -53⟩ = (⟨false, 9007199254740993, -53⟩, 0) := addO_is (X := ⟨false, 1, 0⟩) (Y := ⟨false, 1, -53⟩) (D := ⟨false, 9007199254740993, -53⟩) (by decide) (by decide) (nrm_o (by decide)) (nrm_o (by decide)) (by decide) rfl (nrm_o (by decide)) (by decide)
theorem k_cmp : cmpO ⟨false, 1, -1⟩ zeroD = (1, 0) := cmpO_is (X := ⟨false, 1, -1⟩) (Y := zeroD) (by decide) (by decide) (nrm_o (by decide)) (nrm_zero rfl) (by decide) rfl
theorem k_sub : addO ⟨false, 3, 0⟩ ⟨!false, 3, 0⟩ = (zeroD, 0) := addO_is (X := ⟨false, 3, 0⟩) (Y := ⟨true, 3, 0⟩) (D := ⟨false, 0, 0⟩) (by decide) (by decide) (nrm_o (by decide)) (nrm_o (by decide)) (by decide) rfl (nrm_zero rfl) (by decide)
theorem k_mul : mulO ⟨false, 3602879701896397, -55⟩ ⟨false, 5, 1⟩ = (⟨false, 18014398509481985, -54⟩, 0) := mulO_is (X := ⟨false, 3602879701896397, -55⟩) (Y := ⟨false, 5, 1⟩) (D := ⟨false, 18014398509481985, -54⟩) (by decide) (by decide) (nrm_o (by decide)) (nrm_o (by decide)) rfl (nrm_o (by decide)) (by decide)
theorem k_neg : normO ⟨!false, 1, -1075⟩ = (⟨true, 1, -1075⟩, 0) := normO_is (by decide) (nrm_o (by decide)) (by decide)
theorem near1 {s t : Bool} {m m' : Nat} {e e' : Int} (h : m % 2 = 1) (h' : m' % 2 = 1) (he : e - e' ≤ 12000 ∧ e' - e ≤ 12000) : farD (nrm ⟨s, m, e⟩) (nrm ⟨t, m', e'⟩) ∨ nearD (nrm ⟨s, m, e⟩) (nrm ⟨t, m', e'⟩) := by
  rw [nrm_o h, nrm_o h']; exact .inr (.inr (.inr he))
theorem near0 {x : Dy} {s : Bool} {e : Int} : farD (nrm x) (nrm ⟨s, 0, e⟩) ∨ nearD (nrm x) (nrm ⟨s, 0, e⟩) := by
  rw [nrm_zero (d := ⟨s, 0, e⟩) rfl]; exact .inr (.inr (.inl rfl))
theorem text_of {n : Nat} {l : List Nat} (h : n ≠ 0) (hd : digs n = (l.map digB)) : textN n = (l.map digB).reverse := by unfold textN; rw [if_neg h, hd]
theorem digs_step' {n q r : Nat} (h : n ≠ 0) (hq : n / 10 = q) (hr : n % 10 = r) : digs n = digB r :: digs q := by rw [digs_pos h, hq, hr]
theorem t_one : textN 1 = [49] := by
  unfold textN
  rw [if_neg (by decide)]
  repeat rw [digs_step' (by decide) rfl rfl]
  rw [digs_zero]
  rfl
theorem t_three : textN 3 = [51] := by
  unfold textN
  rw [if_neg (by decide)]
  repeat rw [digs_step' (by decide) rfl rfl]
  rw [digs_zero]
  rfl
theorem t_zero : textN 0 = [48] := by unfold textN; rw [if_pos rfl]
theorem t_b : textN 1152921504606846977 = [49, 49, 53, 50, 57, 50, 49, 53, 48, 52, 54, 48, 54, 56, 52, 54, 57, 55, 55] := by
  unfold textN
  rw [if_neg (by decide)]
  repeat rw [digs_step' (by decide) rfl rfl]
  rw [digs_zero]
  rfl
theorem t_x : textN 18014398509481985 = [49, 56, 48, 49, 52, 51, 57, 56, 53, 48, 57, 52, 56, 49, 57, 56, 53] := by
  unfold textN
  rw [if_neg (by decide)]
  repeat rw [digs_step' (by decide) rfl rfl]
  rw [digs_zero]
  rfl
theorem i_m1 : Lib.itoa (-1) = [45, 49] := by decide +kernel
theorem i_1 : Lib.itoa 1 = [49] := by decide +kernel
theorem i_0 : Lib.itoa 0 = [48] := by decide +kernel
theorem i_60 : Lib.itoa (-60) = [45, 54, 48] := by decide +kernel
theorem i_54 : Lib.itoa (-54) = [45, 53, 52] := by decide +kernel
theorem x_one : (⟨(textD false 1 (-1)).toArray⟩ : ByteArray) = ⟨#[49, 112, 45, 49]⟩ := by unfold textD; rw [t_one, i_m1]; rfl
theorem x_msix : (⟨(textD true 3 1).toArray⟩ : ByteArray) = ⟨#[45, 51, 112, 49]⟩ := by unfold textD; rw [t_three, i_1]; rfl
theorem x_zero : (⟨(textD false 0 0).toArray⟩ : ByteArray) = ⟨#[48]⟩ := by unfold textD; rw [t_zero]; rfl
theorem x_b : (⟨(textD false 1152921504606846977 (-60)).toArray⟩ : ByteArray) = ⟨#[49, 49, 53, 50, 57, 50, 49, 53, 48, 52, 54, 48, 54, 56, 52, 54, 57, 55, 55, 112, 45, 54, 48]⟩ := by unfold textD; rw [t_b, i_60]; rfl
theorem x_x : (⟨(textD false 18014398509481985 (-54)).toArray⟩ : ByteArray) = ⟨#[49, 56, 48, 49, 52, 51, 57, 56, 53, 48, 57, 52, 56, 49, 57, 56, 53, 112, 45, 53, 52]⟩ := by unfold textD; rw [t_x, i_54]; rfl
theorem r_is {s : Bool} {m : Nat} {e : Int} {W : Nat} (h : m % 2 = 1) (hW : roundN s m e = W) : rndD (nrm ⟨s, m, e⟩) = W := by rw [nrm_o h]; exact hW
end Go.Plumb
namespace Go.Proofs.YtjlaadadbpffdaaGreatDoor
open Go.RowKit Go.Plumb
section
variable {w : World} {a b : Option Addr} {n c m d : Nat} {l k : List Nat}
theorem lof_v (x : Nat) (hx : x < 18446744073709551616) (hc : classI (x : Int) ≤ 3) {X : Dy} (hX : nrm (dyW x) = X) (hT : Tab w) :
    Calls Tryz.prog 44 #[.float .f64 x] w fun z w' => ∃ a' n' c', z = .returned (.agg #[.bool X.s, .slice a' n' c', .int .i64 X.e]) ∧ Num w' a' n' c' (limbs X.m) ∧ Below w.heap.size w w' := by
  subst hX
  exact lof_any x hx hc hT
theorem dWhole_v (x : Int) (h0 : -9223372036854775808 ≤ x) (h1 : x ≤ 9223372036854775807) {X : Dy} (hX : nrm ⟨decide (x < 0), x.natAbs, 0⟩ = X) (hT : Tab w) :
    Calls Tryz.prog 34 #[.int .i64 x] w fun z w' => ∃ a' n' c', z = .returned (.agg #[.bool X.s, .slice a' n' c', .int .i64 X.e]) ∧ Num w' a' n' c' (limbs X.m) ∧ Below w.heap.size w w' := by
  subst hX
  exact dWhole_any x h0 h1 hT
end
set_option maxRecDepth 100000 in
set_option maxHeartbeats 8000000 in
theorem known3_any (w : World) (hT : Tab w) (hQ : PowT Tryz.prog w) : Calls Tryz.prog 29 #[] w fun e w' => e = .returned (.bool true) ∧ Below w.heap.size w w' := by
  have HS : Hid (At w w []) := Lib.hid (At.start w)
  go_enter Tryz.func29, Tryz.ntmps29
  go_wp2_with fail
  refine (nan_any _).mono ?_
  rintro e w' ⟨rfl, rfl⟩
  go_wp2_with fail
  refine (dOf_bad 9221120237041090561 (by decide) (by decide)).mono ?_
  rintro e w1 ⟨rfl, hb⟩
  replace HS := Lib.hid (HS.out.call (by repeat' (first | exact Below.refl _ _ | refine below_alloc ?_ _)) hb)
  clear hb
  go_wp2_with fail
  refine (lof_v 4607182418800017408 (by decide) (by decide) w_one (hT.below (below_step HS.out.1 (by repeat' (first | exact Below.refl _ _ | refine below_alloc ?_ _))))).mono ?_
  rintro e w2 ⟨a_o1, n_o1, c_o1, rfl, h0, hb⟩
  replace HS := Lib.hid (HS.out.num (by repeat' (first | exact Below.refl _ _ | refine below_alloc ?_ _)) hb h0)
  have L_o1 := Lib.hid h0.1
  clear hb h0
  go_wp2_with fail
  refine (lhalf_any (-60) (by decide)).mono ?_
  rintro e w3 ⟨a_p1, n_p1, c_p1, rfl, h0, hb⟩
  replace HS := Lib.hid (HS.out.num (by repeat' (first | exact Below.refl _ _ | refine below_alloc ?_ _)) hb h0)
  have L_p1 := Lib.hid h0.1
  clear hb h0
  go_wp2_with fail
  refine (dAdd_v false false 0 (-60) _ _ (hT.below (below_step HS.out.1 (by repeat' (first | exact Below.refl _ _ | refine below_alloc ?_ _)))) (HS.out.get 1 rfl (by repeat' (first | exact Below.refl _ _ | refine below_alloc ?_ _))) (HS.out.get 0 rfl (by repeat' (first | exact Below.refl _ _ | refine below_alloc ?_ _))) (valL_limbs _) (valL_limbs _) (Nat.le_trans (Nat.add_le_add (len_le_one (by decide)) (len_le_one (by decide))) (by decide)) (near1 (by decide) (by decide) (by decide)) k_add1).mono ?_
  rintro e w4 ⟨a_b, n_b, c_b, rfl, h0, hb⟩
  replace HS := Lib.hid (HS.out.num (by repeat' (first | exact Below.refl _ _ | refine below_alloc ?_ _)) hb h0)
  have L_b := Lib.hid h0.1
  clear hb h0
  go_wp2_with fail
  refine (lof_v 4607182418800017408 (by decide) (by decide) w_one (hT.below (below_step HS.out.1 (by repeat' (first | exact Below.refl _ _ | refine below_alloc ?_ _))))).mono ?_
  rintro e w5 ⟨a_o2, n_o2, c_o2, rfl, h0, hb⟩
  have B_b := Lib.hid (Boxed3.later (Boxed3.new w4 false a_b n_b c_b (-60) 24 rfl) (by repeat' (first | exact Below.refl _ _ | refine below_alloc ?_ _)) hb)
  replace HS := Lib.hid (HS.out.num (by repeat' (first | exact Below.refl _ _ | refine below_alloc ?_ _)) hb h0)
  have L_o2 := Lib.hid h0.1
  clear hb h0
  go_wp2_with fail
  refine (lhalf_any (-53) (by decide)).mono ?_
  rintro e w6 ⟨a_p2, n_p2, c_p2, rfl, h0, hb⟩
  replace B_b := Lib.hid (B_b.out.later (by repeat' (first | exact Below.refl _ _ | refine below_alloc ?_ _)) hb)
  replace HS := Lib.hid (HS.out.num (by repeat' (first | exact Below.refl _ _ | refine below_alloc ?_ _)) hb h0)
  have L_p2 := Lib.hid h0.1
  clear hb h0
  go_wp2_with fail
  refine (dAdd_v false false 0 (-53) _ _ (hT.below (below_step HS.out.1 (by repeat' (first | exact Below.refl _ _ | refine below_alloc ?_ _)))) (HS.out.get 1 rfl (by repeat' (first | exact Below.refl _ _ | refine below_alloc ?_ _))) (HS.out.get 0 rfl (by repeat' (first | exact Below.refl _ _ | refine below_alloc ?_ _))) (valL_limbs _) (valL_limbs _) (Nat.le_trans (Nat.add_le_add (len_le_one (by decide)) (len_le_one (by decide))) (by decide)) (near1 (by decide) (by decide) (by decide)) k_add2).mono ?_
  rintro e w7 ⟨a_c, n_c, c_c, rfl, h0, hb⟩
  replace B_b := Lib.hid (B_b.out.later (by repeat' (first | exact Below.refl _ _ | refine below_alloc ?_ _)) hb)
  replace HS := Lib.hid (HS.out.num (by repeat' (first | exact Below.refl _ _ | refine below_alloc ?_ _)) hb h0)
  have L_c := Lib.hid h0.1
  clear hb h0
  go_wp2_with fail
  refine (lhalf_any (-1) (by decide)).mono ?_
  rintro e w8 ⟨a_p3, n_p3, c_p3, rfl, h0, hb⟩
  replace B_b := Lib.hid (B_b.out.later (by repeat' (first | exact Below.refl _ _ | refine below_alloc ?_ _)) hb)
  have B_c := Lib.hid (Boxed3.later (Boxed3.new w7 false a_c n_c c_c (-53) 24 rfl) (by repeat' (first | exact Below.refl _ _ | refine below_alloc ?_ _)) hb)
  replace HS := Lib.hid (HS.out.num (by repeat' (first | exact Below.refl _ _ | refine below_alloc ?_ _)) hb h0)
  have L_p3 := Lib.hid h0.1
  clear hb h0
  go_wp2_with fail
  refine (dWhole_v 0 (by decide) (by decide) n_whole0 (hT.below (below_step HS.out.1 (by repeat' (first | exact Below.refl _ _ | refine below_alloc ?_ _))))).mono ?_
  rintro e w9 ⟨a_z0, n_z0, c_z0, rfl, h0, hb⟩
  replace B_b := Lib.hid (B_b.out.later (by repeat' (first | exact Below.refl _ _ | refine below_alloc ?_ _)) hb)
  replace B_c := Lib.hid (B_c.out.later (by repeat' (first | exact Below.refl _ _ | refine below_alloc ?_ _)) hb)
  replace HS := Lib.hid (HS.out.num (by repeat' (first | exact Below.refl _ _ | refine below_alloc ?_ _)) hb h0)
  have L_z0 := Lib.hid h0.1
  clear hb h0
  go_wp2_with fail
  refine (dCmp_v false false (-1) 0 1 0 (hT.below (below_step HS.out.1 (by repeat' (first | exact Below.refl _ _ | refine below_alloc ?_ _)))) (HS.out.get 1 rfl (by repeat' (first | exact Below.refl _ _ | refine below_alloc ?_ _))) (HS.out.get 0 rfl (by repeat' (first | exact Below.refl _ _ | refine below_alloc ?_ _))) (valL_limbs _) (valL_limbs _) (Nat.le_trans (Nat.add_le_add (len_le_one (by decide)) (len_le_one (by decide))) (by decide)) (by decide) (by decide) near0 k_cmp).mono ?_
  rintro e w10 ⟨rfl, hb⟩
  replace B_b := Lib.hid (B_b.out.later (by repeat' (first | exact Below.refl _ _ | refine below_alloc ?_ _)) hb)
  replace B_c := Lib.hid (B_c.out.later (by repeat' (first | exact Below.refl _ _ | refine below_alloc ?_ _)) hb)
  replace HS := Lib.hid (HS.out.call (by repeat' (first | exact Below.refl _ _ | refine below_alloc ?_ _)) hb)
  clear hb
  go_wp2_with fail
  refine (dWhole_v 3 (by decide) (by decide) n_whole3 (hT.below (below_step HS.out.1 (by repeat' (first | exact Below.refl _ _ | refine below_alloc ?_ _))))).mono ?_
  rintro e w11 ⟨a_t1, n_t1, c_t1, rfl, h0, hb⟩
  replace B_b := Lib.hid (B_b.out.later (by repeat' (first | exact Below.refl _ _ | refine below_alloc ?_ _)) hb)
  replace B_c := Lib.hid (B_c.out.later (by repeat' (first | exact Below.refl _ _ | refine below_alloc ?_ _)) hb)
  replace HS := Lib.hid (HS.out.num (by repeat' (first | exact Below.refl _ _ | refine below_alloc ?_ _)) hb h0)
  have L_t1 := Lib.hid h0.1
  clear hb h0
  go_wp2_with fail
  refine (dWhole_v 3 (by decide) (by decide) n_whole3 (hT.below (below_step HS.out.1 (by repeat' (first | exact Below.refl _ _ | refine below_alloc ?_ _))))).mono ?_
  rintro e w12 ⟨a_t2, n_t2, c_t2, rfl, h0, hb⟩
  replace B_b := Lib.hid (B_b.out.later (by repeat' (first | exact Below.refl _ _ | refine below_alloc ?_ _)) hb)
  replace B_c := Lib.hid (B_c.out.later (by repeat' (first | exact Below.refl _ _ | refine below_alloc ?_ _)) hb)
  replace HS := Lib.hid (HS.out.num (by repeat' (first | exact Below.refl _ _ | refine below_alloc ?_ _)) hb h0)
  have L_t2 := Lib.hid h0.1
  clear hb h0
  go_wp2_with fail
  refine (dSub_v false false 0 0 _ _ (hT.below (below_step HS.out.1 (by repeat' (first | exact Below.refl _ _ | refine below_alloc ?_ _)))) (HS.out.get 1 rfl (by repeat' (first | exact Below.refl _ _ | refine below_alloc ?_ _))) (HS.out.get 0 rfl (by repeat' (first | exact Below.refl _ _ | refine below_alloc ?_ _))) (valL_limbs _) (valL_limbs _) (Nat.le_trans (Nat.add_le_add (len_le_one (by decide)) (len_le_one (by decide))) (by decide)) (near1 (by decide) (by decide) (by decide)) k_sub).mono ?_
  rintro e w13 ⟨a_d, n_d, c_d, rfl, h0, hb⟩
  replace B_b := Lib.hid (B_b.out.later (by repeat' (first | exact Below.refl _ _ | refine below_alloc ?_ _)) hb)
  replace B_c := Lib.hid (B_c.out.later (by repeat' (first | exact Below.refl _ _ | refine below_alloc ?_ _)) hb)
  replace HS := Lib.hid (HS.out.num (by repeat' (first | exact Below.refl _ _ | refine below_alloc ?_ _)) hb h0)
  have L_d := Lib.hid h0.1
  clear hb h0
  go_wp2_with fail
  refine (lof_v 4591870180066957722 (by decide) (by decide) w_tenth (hT.below (below_step HS.out.1 (by repeat' (first | exact Below.refl _ _ | refine below_alloc ?_ _))))).mono ?_
  rintro e w14 ⟨a_o3, n_o3, c_o3, rfl, h0, hb⟩
  replace B_b := Lib.hid (B_b.out.later (by repeat' (first | exact Below.refl _ _ | refine below_alloc ?_ _)) hb)
  replace B_c := Lib.hid (B_c.out.later (by repeat' (first | exact Below.refl _ _ | refine below_alloc ?_ _)) hb)
  have B_d := Lib.hid (Boxed3.later (Boxed3.new w13 false a_d n_d c_d (0) 24 rfl) (by repeat' (first | exact Below.refl _ _ | refine below_alloc ?_ _)) hb)
  replace HS := Lib.hid (HS.out.num (by repeat' (first | exact Below.refl _ _ | refine below_alloc ?_ _)) hb h0)
  have L_o3 := Lib.hid h0.1
  clear hb h0
  go_wp2_with fail
  refine (dWhole_v 10 (by decide) (by decide) n_whole10 (hT.below (below_step HS.out.1 (by repeat' (first | exact Below.refl _ _ | refine below_alloc ?_ _))))).mono ?_
  rintro e w15 ⟨a_t3, n_t3, c_t3, rfl, h0, hb⟩
  replace B_b := Lib.hid (B_b.out.later (by repeat' (first | exact Below.refl _ _ | refine below_alloc ?_ _)) hb)
  replace B_c := Lib.hid (B_c.out.later (by repeat' (first | exact Below.refl _ _ | refine below_alloc ?_ _)) hb)
  replace B_d := Lib.hid (B_d.out.later (by repeat' (first | exact Below.refl _ _ | refine below_alloc ?_ _)) hb)
  replace HS := Lib.hid (HS.out.num (by repeat' (first | exact Below.refl _ _ | refine below_alloc ?_ _)) hb h0)
  have L_t3 := Lib.hid h0.1
  clear hb h0
  go_wp2_with fail
  refine (dMul_v false false (-55) 1 _ _ (hT.below (below_step HS.out.1 (by repeat' (first | exact Below.refl _ _ | refine below_alloc ?_ _)))) (HS.out.get 1 rfl (by repeat' (first | exact Below.refl _ _ | refine below_alloc ?_ _))) (HS.out.get 0 rfl (by repeat' (first | exact Below.refl _ _ | refine below_alloc ?_ _))) (valL_limbs _) (valL_limbs _) (Nat.le_trans (Nat.add_le_add (len_le_one (by decide)) (len_le_one (by decide))) (by decide)) k_mul).mono ?_
  rintro e w16 ⟨a_x, n_x, c_x, rfl, h0, hb⟩
  replace B_b := Lib.hid (B_b.out.later (by repeat' (first | exact Below.refl _ _ | refine below_alloc ?_ _)) hb)
  replace B_c := Lib.hid (B_c.out.later (by repeat' (first | exact Below.refl _ _ | refine below_alloc ?_ _)) hb)
  replace B_d := Lib.hid (B_d.out.later (by repeat' (first | exact Below.refl _ _ | refine below_alloc ?_ _)) hb)
  replace HS := Lib.hid (HS.out.num (by repeat' (first | exact Below.refl _ _ | refine below_alloc ?_ _)) hb h0)
  have L_x := Lib.hid h0.1
  clear hb h0
  go_wp2_with fail
  refine (lhalf_any (-1075) (by decide)).mono ?_
  rintro e w17 ⟨a_p4, n_p4, c_p4, rfl, h0, hb⟩
  replace B_b := Lib.hid (B_b.out.later (by repeat' (first | exact Below.refl _ _ | refine below_alloc ?_ _)) hb)
  replace B_c := Lib.hid (B_c.out.later (by repeat' (first | exact Below.refl _ _ | refine below_alloc ?_ _)) hb)
  replace B_d := Lib.hid (B_d.out.later (by repeat' (first | exact Below.refl _ _ | refine below_alloc ?_ _)) hb)
  have B_x := Lib.hid (Boxed3.later (Boxed3.new w16 false a_x n_x c_x (-54) 24 rfl) (by repeat' (first | exact Below.refl _ _ | refine below_alloc ?_ _)) hb)
  replace HS := Lib.hid (HS.out.num (by repeat' (first | exact Below.refl _ _ | refine below_alloc ?_ _)) hb h0)
  have L_p4 := Lib.hid h0.1
  clear hb h0
  go_wp2_with fail
  refine (dNeg_v false (-1075) _ _ (hT.below (below_step HS.out.1 (by repeat' (first | exact Below.refl _ _ | refine below_alloc ?_ _)))) (HS.out.get 0 rfl (by repeat' (first | exact Below.refl _ _ | refine below_alloc ?_ _))) (valL_limbs _) (Nat.le_trans (len_le_one (by decide)) (by decide)) k_neg).mono ?_
  rintro e w18 ⟨a_y, n_y, c_y, rfl, h0, hb⟩
  replace B_b := Lib.hid (B_b.out.later (by repeat' (first | exact Below.refl _ _ | refine below_alloc ?_ _)) hb)
  replace B_c := Lib.hid (B_c.out.later (by repeat' (first | exact Below.refl _ _ | refine below_alloc ?_ _)) hb)
  replace B_d := Lib.hid (B_d.out.later (by repeat' (first | exact Below.refl _ _ | refine below_alloc ?_ _)) hb)
  replace B_x := Lib.hid (B_x.out.later (by repeat' (first | exact Below.refl _ _ | refine below_alloc ?_ _)) hb)
  replace HS := Lib.hid (HS.out.num (by repeat' (first | exact Below.refl _ _ | refine below_alloc ?_ _)) hb h0)
  have L_y := Lib.hid h0.1
  clear hb h0
  go_wp2_with fail
  refine (lof_v 4602678819172646912 (by decide) (by decide) w_half (hT.below (below_step HS.out.1 (by repeat' (first | exact Below.refl _ _ | refine below_alloc ?_ _))))).mono ?_
  rintro e w19 ⟨a_h1, n_h1, c_h1, rfl, h0, hb⟩
  replace B_b := Lib.hid (B_b.out.later (by repeat' (first | exact Below.refl _ _ | refine below_alloc ?_ _)) hb)
  replace B_c := Lib.hid (B_c.out.later (by repeat' (first | exact Below.refl _ _ | refine below_alloc ?_ _)) hb)
  replace B_d := Lib.hid (B_d.out.later (by repeat' (first | exact Below.refl _ _ | refine below_alloc ?_ _)) hb)
  replace B_x := Lib.hid (B_x.out.later (by repeat' (first | exact Below.refl _ _ | refine below_alloc ?_ _)) hb)
  have B_y := Lib.hid (Boxed3.later (Boxed3.new w18 true a_y n_y c_y (-1075) 24 rfl) (by repeat' (first | exact Below.refl _ _ | refine below_alloc ?_ _)) hb)
  replace HS := Lib.hid (HS.out.num (by repeat' (first | exact Below.refl _ _ | refine below_alloc ?_ _)) hb h0)
  have L_h1 := Lib.hid h0.1
  clear hb h0
  go_wp2_with fail
  refine (ltext_v false (-1) _ ⟨false, 1, -1⟩ (hT.below (below_step HS.out.1 (by repeat' (first | exact Below.refl _ _ | refine below_alloc ?_ _)))) (HS.out.get 0 rfl (by repeat' (first | exact Below.refl _ _ | refine below_alloc ?_ _))) (valL_limbs _) (Nat.le_trans (len_le_one (by decide)) (by decide)) (PowT_below hQ (below_step HS.out.1 (by repeat' (first | exact Below.refl _ _ | refine below_alloc ?_ _)))) (by decide) (nrm_o (by decide)) (by rw [t_one]; decide) (by rw [i_m1]; decide) x_one).mono ?_
  rintro e w20 ⟨rfl, hb⟩
  replace B_b := Lib.hid (B_b.out.later (by repeat' (first | exact Below.refl _ _ | refine below_alloc ?_ _)) hb)
  replace B_c := Lib.hid (B_c.out.later (by repeat' (first | exact Below.refl _ _ | refine below_alloc ?_ _)) hb)
  replace B_d := Lib.hid (B_d.out.later (by repeat' (first | exact Below.refl _ _ | refine below_alloc ?_ _)) hb)
  replace B_x := Lib.hid (B_x.out.later (by repeat' (first | exact Below.refl _ _ | refine below_alloc ?_ _)) hb)
  replace B_y := Lib.hid (B_y.out.later (by repeat' (first | exact Below.refl _ _ | refine below_alloc ?_ _)) hb)
  replace HS := Lib.hid (HS.out.call (by repeat' (first | exact Below.refl _ _ | refine below_alloc ?_ _)) hb)
  clear hb
  go_wp2_with fail
  refine (lof_v 13841813454723219456 (by decide) (by decide) w_msix (hT.below (below_step HS.out.1 (by repeat' (first | exact Below.refl _ _ | refine below_alloc ?_ _))))).mono ?_
  rintro e w21 ⟨a_h2, n_h2, c_h2, rfl, h0, hb⟩
  replace B_b := Lib.hid (B_b.out.later (by repeat' (first | exact Below.refl _ _ | refine below_alloc ?_ _)) hb)
  replace B_c := Lib.hid (B_c.out.later (by repeat' (first | exact Below.refl _ _ | refine below_alloc ?_ _)) hb)
  replace B_d := Lib.hid (B_d.out.later (by repeat' (first | exact Below.refl _ _ | refine below_alloc ?_ _)) hb)
  replace B_x := Lib.hid (B_x.out.later (by repeat' (first | exact Below.refl _ _ | refine below_alloc ?_ _)) hb)
  replace B_y := Lib.hid (B_y.out.later (by repeat' (first | exact Below.refl _ _ | refine below_alloc ?_ _)) hb)
  replace HS := Lib.hid (HS.out.num (by repeat' (first | exact Below.refl _ _ | refine below_alloc ?_ _)) hb h0)
  have L_h2 := Lib.hid h0.1
  clear hb h0
  go_wp2_with fail
  refine (ltext_v true 1 _ ⟨true, 3, 1⟩ (hT.below (below_step HS.out.1 (by repeat' (first | exact Below.refl _ _ | refine below_alloc ?_ _)))) (HS.out.get 0 rfl (by repeat' (first | exact Below.refl _ _ | refine below_alloc ?_ _))) (valL_limbs _) (Nat.le_trans (len_le_one (by decide)) (by decide)) (PowT_below hQ (below_step HS.out.1 (by repeat' (first | exact Below.refl _ _ | refine below_alloc ?_ _)))) (by decide) (nrm_o (by decide)) (by rw [t_three]; decide) (by rw [i_1]; decide) x_msix).mono ?_
  rintro e w22 ⟨rfl, hb⟩
  replace B_b := Lib.hid (B_b.out.later (by repeat' (first | exact Below.refl _ _ | refine below_alloc ?_ _)) hb)
  replace B_c := Lib.hid (B_c.out.later (by repeat' (first | exact Below.refl _ _ | refine below_alloc ?_ _)) hb)
  replace B_d := Lib.hid (B_d.out.later (by repeat' (first | exact Below.refl _ _ | refine below_alloc ?_ _)) hb)
  replace B_x := Lib.hid (B_x.out.later (by repeat' (first | exact Below.refl _ _ | refine below_alloc ?_ _)) hb)
  replace B_y := Lib.hid (B_y.out.later (by repeat' (first | exact Below.refl _ _ | refine below_alloc ?_ _)) hb)
  replace HS := Lib.hid (HS.out.call (by repeat' (first | exact Below.refl _ _ | refine below_alloc ?_ _)) hb)
  clear hb
  go_wp2_with fail
  refine (copysign0_any _).mono ?_
  rintro e w' ⟨rfl, rfl⟩
  go_wp2_with fail
  refine (lof_v 9223372036854775808 (by decide) (by decide) w_mzero (hT.below (below_step HS.out.1 (by repeat' (first | exact Below.refl _ _ | refine below_alloc ?_ _))))).mono ?_
  rintro e w23 ⟨a_h3, n_h3, c_h3, rfl, h0, hb⟩
  replace B_b := Lib.hid (B_b.out.later (by repeat' (first | exact Below.refl _ _ | refine below_alloc ?_ _)) hb)
  replace B_c := Lib.hid (B_c.out.later (by repeat' (first | exact Below.refl _ _ | refine below_alloc ?_ _)) hb)
  replace B_d := Lib.hid (B_d.out.later (by repeat' (first | exact Below.refl _ _ | refine below_alloc ?_ _)) hb)
  replace B_x := Lib.hid (B_x.out.later (by repeat' (first | exact Below.refl _ _ | refine below_alloc ?_ _)) hb)
  replace B_y := Lib.hid (B_y.out.later (by repeat' (first | exact Below.refl _ _ | refine below_alloc ?_ _)) hb)
  replace HS := Lib.hid (HS.out.num (by repeat' (first | exact Below.refl _ _ | refine below_alloc ?_ _)) hb h0)
  have L_h3 := Lib.hid h0.1
  clear hb h0
  go_wp2_with fail
  refine (ltext_v false 0 _ zeroD (hT.below (below_step HS.out.1 (by repeat' (first | exact Below.refl _ _ | refine below_alloc ?_ _)))) (HS.out.get 0 rfl (by repeat' (first | exact Below.refl _ _ | refine below_alloc ?_ _))) (valL_limbs _) (Nat.le_trans (len_le_one (by decide)) (by decide)) (PowT_below hQ (below_step HS.out.1 (by repeat' (first | exact Below.refl _ _ | refine below_alloc ?_ _)))) (by decide) (nrm_zero rfl) (by show (textN 0).length ≤ _; rw [t_zero]; decide) (by show (Lib.itoa 0).length ≤ _; rw [i_0]; decide) x_zero).mono ?_
  rintro e w24 ⟨rfl, hb⟩
  replace B_b := Lib.hid (B_b.out.later (by repeat' (first | exact Below.refl _ _ | refine below_alloc ?_ _)) hb)
  replace B_c := Lib.hid (B_c.out.later (by repeat' (first | exact Below.refl _ _ | refine below_alloc ?_ _)) hb)
  replace B_d := Lib.hid (B_d.out.later (by repeat' (first | exact Below.refl _ _ | refine below_alloc ?_ _)) hb)
  replace B_x := Lib.hid (B_x.out.later (by repeat' (first | exact Below.refl _ _ | refine below_alloc ?_ _)) hb)
  replace B_y := Lib.hid (B_y.out.later (by repeat' (first | exact Below.refl _ _ | refine below_alloc ?_ _)) hb)
  replace HS := Lib.hid (HS.out.call (by repeat' (first | exact Below.refl _ _ | refine below_alloc ?_ _)) hb)
  clear hb
  go_wp2_with fail
  refine (num3_any 2 _).mono ?_
  rintro e w' ⟨rfl, rfl⟩
  go_wp2_with fail
  have HSS : Hid (∀ wx, Below w24.heap.size w24 wx → Below w24.heap.size w24 wx ∧ wx.cell? ⟨w4.heap.size, 0, none⟩ = some (.bool false) ∧ wx.cell? ⟨w4.heap.size, 1, none⟩ = some (.slice a_b n_b c_b) ∧ wx.cell? ⟨w4.heap.size, 2, none⟩ = some (.int .i64 (-60)) ∧ wx.cell? ⟨w7.heap.size, 0, none⟩ = some (.bool false) ∧ wx.cell? ⟨w7.heap.size, 1, none⟩ = some (.slice a_c n_c c_c) ∧ wx.cell? ⟨w7.heap.size, 2, none⟩ = some (.int .i64 (-53)) ∧ wx.cell? ⟨w13.heap.size, 0, none⟩ = some (.bool false) ∧ wx.cell? ⟨w13.heap.size, 1, none⟩ = some (.slice a_d n_d c_d) ∧ wx.cell? ⟨w13.heap.size, 2, none⟩ = some (.int .i64 (0)) ∧ wx.cell? ⟨w16.heap.size, 0, none⟩ = some (.bool false) ∧ wx.cell? ⟨w16.heap.size, 1, none⟩ = some (.slice a_x n_x c_x) ∧ wx.cell? ⟨w16.heap.size, 2, none⟩ = some (.int .i64 (-54)) ∧ wx.cell? ⟨w18.heap.size, 0, none⟩ = some (.bool true) ∧ wx.cell? ⟨w18.heap.size, 1, none⟩ = some (.slice a_y n_y c_y) ∧ wx.cell? ⟨w18.heap.size, 2, none⟩ = some (.int .i64 (-1075))) := Lib.hid (fun wx h => ⟨h, (B_b.out.below h).c0, (B_b.out.below h).c1, (B_b.out.below h).c2, (B_c.out.below h).c0, (B_c.out.below h).c1, (B_c.out.below h).c2, (B_d.out.below h).c0, (B_d.out.below h).c1, (B_d.out.below h).c2, (B_x.out.below h).c0, (B_x.out.below h).c1, (B_x.out.below h).c2, (B_y.out.below h).c0, (B_y.out.below h).c1, (B_y.out.below h).c2⟩)
  have HB0 := Below.refl w24.heap.size w24
  have HT := Lib.hid (hT.below HS.out.1)
  have HQ := Lib.hid (PowT_below hQ HS.out.1)
  have t1 := fun wx (h : Below w24.heap.size w24 wx) => ltext_v false (-60) _ ⟨false, 1152921504606846977, -60⟩ (HT.out.below h) (HS.out.get 16 rfl h) (valL_limbs _) (Nat.le_trans (len_le_one (by decide)) (by decide)) (PowT_below HQ.out h) (by decide) (nrm_o (by decide)) (by rw [t_b]; decide) (by rw [i_60]; decide) x_b
  have t2 := fun wx (h : Below w24.heap.size w24 wx) => ltext_v false 0 _ zeroD (HT.out.below h) (HS.out.get 8 rfl h) (valL_limbs _) (Nat.le_trans (len_le_one (by decide)) (by decide)) (PowT_below HQ.out h) (by decide) (nrm_zero rfl) (by show (textN 0).length ≤ _; rw [t_zero]; decide) (by show (Lib.itoa 0).length ≤ _; rw [i_0]; decide) x_zero
  have t3 := fun wx (h : Below w24.heap.size w24 wx) => ltext_v false (-54) _ ⟨false, 18014398509481985, -54⟩ (HT.out.below h) (HS.out.get 5 rfl h) (valL_limbs _) (Nat.le_trans (len_le_one (by decide)) (by decide)) (PowT_below HQ.out h) (by decide) (nrm_o (by decide)) (by rw [t_x]; decide) (by rw [i_54]; decide) x_x
  have f1 := fun wx (h : Below w24.heap.size w24 wx) => lfloat_v false (-60) 4607182418800017408 (HT.out.below h) (HS.out.get 16 rfl h) (valL_limbs _) (Nat.le_trans (len_le_one (by decide)) (by decide)) (by decide) (r_is (by decide) (by decide))
  have f2 := fun wx (h : Below w24.heap.size w24 wx) => lfloat_v false (-53) 4607182418800017408 (HT.out.below h) (HS.out.get 13 rfl h) (valL_limbs _) (Nat.le_trans (len_le_one (by decide)) (by decide)) (by decide) (r_is (by decide) (by decide))
  have f3 := fun wx (h : Below w24.heap.size w24 wx) => lfloat_v true (-1075) 9223372036854775808 (HT.out.below h) (HS.out.get 3 rfl h) (valL_limbs _) (Nat.le_trans (len_le_one (by decide)) (by decide)) (by decide) (r_is (by decide) (by decide))
  have f4 := fun wx (h : Below w24.heap.size w24 wx) (a : Option Addr) (n c : Nat) (hn : Num wx a n c (limbs 1)) => lfloat_v false 1024 9218868437227405312 (HT.out.below h) hn (valL_limbs _) (Nat.le_trans (len_le_one (by decide)) (by decide)) (by decide) (r_is (by decide) (by decide))
  have f5 := fun wx (h : Below w24.heap.size w24 wx) (a : Option Addr) (n c : Nat) (hn : Num wx a n c (limbs 1)) => lfloat_v false (-1075) 0 (HT.out.below h) hn (valL_limbs _) (Nat.le_trans (len_le_one (by decide)) (by decide)) (by decide) (r_is (by decide) (by decide))
  have g1 := fun wx => lhalf_any (w := wx) 1024 (by decide)
  have g2 := fun wx => lhalf_any (w := wx) (-1075) (by decide)
  clear B_b B_c B_d B_x B_y hT hQ
  go_region_held3 (fun wx => Below w24.heap.size w24 wx ∧ wx.cell? ⟨w4.heap.size, 0, none⟩ = some (.bool false) ∧ wx.cell? ⟨w4.heap.size, 1, none⟩ = some (.slice a_b n_b c_b) ∧ wx.cell? ⟨w4.heap.size, 2, none⟩ = some (.int .i64 (-60)) ∧ wx.cell? ⟨w7.heap.size, 0, none⟩ = some (.bool false) ∧ wx.cell? ⟨w7.heap.size, 1, none⟩ = some (.slice a_c n_c c_c) ∧ wx.cell? ⟨w7.heap.size, 2, none⟩ = some (.int .i64 (-53)) ∧ wx.cell? ⟨w13.heap.size, 0, none⟩ = some (.bool false) ∧ wx.cell? ⟨w13.heap.size, 1, none⟩ = some (.slice a_d n_d c_d) ∧ wx.cell? ⟨w13.heap.size, 2, none⟩ = some (.int .i64 (0)) ∧ wx.cell? ⟨w16.heap.size, 0, none⟩ = some (.bool false) ∧ wx.cell? ⟨w16.heap.size, 1, none⟩ = some (.slice a_x n_x c_x) ∧ wx.cell? ⟨w16.heap.size, 2, none⟩ = some (.int .i64 (-54)) ∧ wx.cell? ⟨w18.heap.size, 0, none⟩ = some (.bool true) ∧ wx.cell? ⟨w18.heap.size, 1, none⟩ = some (.slice a_y n_y c_y) ∧ wx.cell? ⟨w18.heap.size, 2, none⟩ = some (.int .i64 (-1075))) (first | exact HSS.out _ (by assumption) | exact HSS.out _ (Below.drew (by assumption))) ((first | (go_at_call 98; (with_reducible first | refine (t1 _ (by first | assumption | exact Below.drew (by assumption))).mono ?_ | refine (t2 _ (by first | assumption | exact Below.drew (by assumption))).mono ?_ | refine (t3 _ (by first | assumption | exact Below.drew (by assumption))).mono ?_); rintro e wz ⟨rfl, hb⟩; have HB0 := below_step (w0 := w24) (by first | assumption | exact Below.drew (by assumption)) hb; clear hb) | (go_at_call 61; (with_reducible first | refine (f1 _ (by first | assumption | exact Below.drew (by assumption))).mono ?_ | refine (f2 _ (by first | assumption | exact Below.drew (by assumption))).mono ?_ | refine (f3 _ (by first | assumption | exact Below.drew (by assumption))).mono ?_ | refine (f4 _ (by first | assumption | exact Below.drew (by assumption)) _ _ _ (by assumption)).mono ?_ | refine (f5 _ (by first | assumption | exact Below.drew (by assumption)) _ _ _ (by assumption)).mono ?_); rintro e wz ⟨rfl, hb⟩; have HB0 := below_step (w0 := w24) (by first | assumption | exact Below.drew (by assumption)) hb; clear hb) | (go_at_call 59; (with_reducible first | refine (g1 _).mono ?_ | refine (g2 _).mono ?_); rintro e wz ⟨ha, hn, hc, rfl, hN, hb⟩; have HB0 := below_step (w0 := w24) (by first | assumption | exact Below.drew (by assumption)) hb; clear hb) | (go_at_call 28; (with_reducible refine (num3_any _ _).mono ?_); rintro e w' ⟨rfl, rfl⟩) | (go_at_call 66; (with_reducible refine (inf_any _).mono ?_); rintro e w' ⟨rfl, rfl⟩) | (go_at_call 65; (with_reducible refine (copysign0_any _).mono ?_); rintro e w' ⟨rfl, rfl⟩)))
  all_goals go_wp2_with fail
  all_goals go_ret
  all_goals exact ⟨rfl, below_step HS.out.1 (by first | assumption | exact Below.drew (by assumption))⟩
end Go.Proofs.YtjlaadadbpffdaaGreatDoor
