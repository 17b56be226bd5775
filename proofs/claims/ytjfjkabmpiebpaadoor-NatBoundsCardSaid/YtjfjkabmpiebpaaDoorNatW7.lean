/-
  Layer 2's laws, walked: NatBounds (printed by natlaws.py).
-/
import Derived.Test.YtjfjkabmpiebpaaDoorNatWc
set_option linter.unusedSimpArgs false
set_option linter.unusedVariables false
namespace Go.Proofs.YtjfjkabmpiebpaaDoor
open Go.RowKit Go.Plumb

set_option maxRecDepth 100000 in
set_option maxHeartbeats 4000000 in
theorem w_NatBounds (w : World) (hT : Tab w) : Calls Tryd.prog 14 #[] w fun e w' => e = .returned (.bool true) ∧ Below w.heap.size w w' := by
  obtain ⟨i0, hi, hz0, hz1, hz2⟩ := info_parts info_u64
  obtain ⟨N, hN⟩ : ∃ N : Nat, N = 4095 := ⟨_, rfl⟩
  obtain ⟨M, hM⟩ : ∃ M : Nat, M = 4096 := ⟨_, rfl⟩
  have HN := Lib.hid hN
  have HM := Lib.hid hM
  have hA0 : Arr (w.alloc (.cells ((zerosA 4096).setIfInBounds 4095 (.int .u64 9223372036854775808)) 36)) (some ⟨w.heap.size, 0, none⟩) 4096 (bigL N) := by
    rw [hN]; exact big_row 4095 (by decide) w
  have HA0 := Lib.hid hA0
  obtain ⟨hc0, hf0⟩ := zero_cell 4095 (by decide) w
  have hmk := make_4096
  have hL : 4096 = (bigL N).length := by rw [bigL_length, hN]
  have HS : Hid (At w (w.alloc (.cells ((zerosA 4096).setIfInBounds 4095 (.int .u64 9223372036854775808)) 36)) [(some ⟨w.heap.size, 0, none⟩, 4096, 4096, bigL N)]) := Lib.hid ⟨by repeat' (first | exact Below.refl _ _ | refine below_alloc ?_ _), ⟨hL, hA0⟩, trivial⟩
  obtain ⟨W1, hW1⟩ : ∃ W1, w.alloc (.cells ((zerosA 4096).setIfInBounds 4095 (.int .u64 9223372036854775808)) 36) = W1 := ⟨_, rfl⟩
  clear hA0 hN hM hL
  go_enter Tryd.func14, Tryd.ntmps14
  go_upto_region 3 with (fail)
  rw [hW1] at HS
  clear hc0 hf0 hW1
  have hzo := zeros_row W1 (.cells #[.int .u64 1] 36) 4096 M HM.out (by decide)
  go_wp2_with (at_builtin; refine wpList_append_own _ rfl _ _ 22 rfl W1.heap.size 36 i0 (.int .u64 0) 1 8 Tryd.underlying22 hi hz0 hz1 hz2 rfl (by decide) _ 4096 ((List.replicate M 0).map limbV) rfl hzo ⟨W1.heap.size + 1, 0, none⟩ 1 1 [limbV 1] rfl rfl (cell_one_at2 (by simp)) (by intro u hu; simp at hu; subst hu; rfl) (by unfold maxLen; decide) (by decide) (by simp; omega) ?_; intro v' w' hown hgrow _; obtain ⟨a_more, n_more, c_more, rfl, h0⟩ := rows_num (l := moreL M) (by rw [moreL_length, HM.out]) (moreL_limbs M) (by unfold moreL; rw [List.map_append]; exact hown); replace HS := Lib.hid (HS.out.num (Below.refl _ _) ((((Below.refl _ W1).alloc (Nat.le_refl _) _).alloc (by simp) _).grown hgrow (by simp; omega) (fun q hq => by cases hq; exact Nat.le_refl _)) h0); clear h0 hown hgrow hzo)
  go_wp2_with fail
  refine (b_add HN.out (HS.out.get 1 rfl (by repeat' (first | exact Below.refl _ _ | refine below_alloc ?_ _)))).mono ?_
  rintro e w1 ⟨rfl, hb⟩
  replace HS := Lib.hid (HS.out.call (by repeat' (first | exact Below.refl _ _ | refine below_alloc ?_ _)) hb)
  clear hb 
  go_wp2_with fail
  refine (b_shl HN.out (HS.out.get 1 rfl (by repeat' (first | exact Below.refl _ _ | refine below_alloc ?_ _)))).mono ?_
  rintro e w2 ⟨rfl, hb⟩
  replace HS := Lib.hid (HS.out.call (by repeat' (first | exact Below.refl _ _ | refine below_alloc ?_ _)) hb)
  clear hb 
  go_wp2_with fail
  refine (b_mul HN.out (HS.out.get 1 rfl (by repeat' (first | exact Below.refl _ _ | refine below_alloc ?_ _))) (by first | exact num_one (x := 2) (by first | rfl | (simp; done)) (by decide) | exact (num_one (x := 2) (by first | rfl | (simp; done)) (by decide)).below (by repeat' (first | exact Below.refl _ _ | refine below_alloc ?_ _)))).mono ?_
  rintro e w3 ⟨rfl, hb⟩
  replace HS := Lib.hid (HS.out.call (by repeat' (first | exact Below.refl _ _ | refine below_alloc ?_ _)) hb)
  clear hb 
  go_wp2_with fail
  refine (b_norm HM.out (HS.out.get 0 rfl (by repeat' (first | exact Below.refl _ _ | refine below_alloc ?_ _)))).mono ?_
  rintro e w4 ⟨rfl, hb⟩
  replace HS := Lib.hid (HS.out.call (by repeat' (first | exact Below.refl _ _ | refine below_alloc ?_ _)) hb)
  clear hb 
  go_wp2_with fail
  refine (b_cmp HM.out none 0 0 (HS.out.get 0 rfl (by repeat' (first | exact Below.refl _ _ | refine below_alloc ?_ _)))).mono ?_
  rintro e w5 ⟨rfl, hb⟩
  replace HS := Lib.hid (HS.out.call (by repeat' (first | exact Below.refl _ _ | refine below_alloc ?_ _)) hb)
  clear hb 
  go_wp2_with fail
  refine (b_pow2_long 262144 (by decide) (by decide)).mono ?_
  rintro e w6 ⟨rfl, hb⟩
  replace HS := Lib.hid (HS.out.call (by repeat' (first | exact Below.refl _ _ | refine below_alloc ?_ _)) hb)
  clear hb 
  go_wp2_with fail
  refine (b_pow2 HN.out 262143 (by have := HN.out; omega)).mono ?_
  rintro e w7 ⟨a_p, n_p, c_p, rfl, h0, hb⟩
  have L_p := Lib.hid h0.1
  replace HS := Lib.hid (HS.out.num (by repeat' (first | exact Below.refl _ _ | refine below_alloc ?_ _)) hb h0)
  clear hb h0
  go_wp2_with fail
  refine (b_bits HN.out (HS.out.get 2 rfl (by repeat' (first | exact Below.refl _ _ | refine below_alloc ?_ _)))).mono ?_
  rintro e w8 ⟨rfl, hb⟩
  replace HS := Lib.hid (HS.out.call (by repeat' (first | exact Below.refl _ _ | refine below_alloc ?_ _)) hb)
  clear hb 
  go_wp2_with (first
    | (at_builtin; refine wpList_append_own _ rfl _ _ 22 rfl w8.heap.size 36 i0 (.int .u64 0) 1 8 Tryd.underlying22 hi hz0 hz1 hz2 rfl (by decide) _ 0 [] rfl (World.ownsRow_nil _ _ _ _) ⟨w.heap.size, 0, none⟩ 4096 4096 ((bigL N).map limbV) rfl (by rw [List.length_map, bigL_length, HN.out]) (num_cells (HS.out.get 2 rfl (Below.refl _ _))) limb_one (by unfold maxLen; decide) (by decide) (Nat.le_refl _) ?_; intro v9 w9 hown9 hgrow9 _)
    | (at_builtin; refine wpList_append_own _ rfl _ _ 22 rfl w8.heap.size 36 i0 (.int .u64 0) 1 8 Tryd.underlying22 hi hz0 hz1 hz2 rfl (by decide) _ (0 + 4096) ([] ++ (bigL N).map limbV) rfl (World.ownsRow.alloc hown9 _) ⟨w9.heap.size, 0, none⟩ 2 2 [limbV 0, limbV 0] rfl rfl (cell_two_at rfl) (by intro u hu; simp at hu; subst hu; rfl) (by unfold maxLen; decide) (by decide) (by have := hgrow9.size; simp; omega) ?_; intro v10 w10 hown10 hgrow10 _; obtain ⟨a_bb, n_bb, c_bb, rfl, h0⟩ := rows_num (l := bigL N ++ [0, 0]) (by rw [List.length_append, bigL_length, HN.out]) ((bigL_limbs N).append (Limbs.cons (by decide) (Limbs.cons (by decide) Limbs.nil))) (by rw [List.map_append]; exact hown10); replace HS := Lib.hid (HS.out.num (Below.refl _ _) (((grown_none hgrow9).alloc hgrow9.size _).grown hgrow10 (by have := hgrow9.size; simp; omega) (fun q hq => (World.ownsRow.lt hown9 q hq).1)) h0); clear h0 hown10 hgrow10 hown9 hgrow9))
  go_wp2_with fail
  refine (b_same_norm HN.out (HS.out.get 0 rfl (by repeat' (first | exact Below.refl _ _ | refine below_alloc ?_ _)))).mono ?_
  rintro e w9 ⟨a_same, n_same, c_same, rfl, h0, hb⟩
  have L_same := Lib.hid h0.1
  replace HS := Lib.hid (HS.out.num (by repeat' (first | exact Below.refl _ _ | refine below_alloc ?_ _)) hb h0)
  clear hb h0
  go_wp2_with fail
  refine (b_shl_nil 1099511627776 (by decide)).mono ?_
  rintro e w10 ⟨a_nl, n_nl, c_nl, rfl, h0, hb⟩
  have L_nl := Lib.hid h0.1
  replace HS := Lib.hid (HS.out.num (by repeat' (first | exact Below.refl _ _ | refine below_alloc ?_ _)) hb h0)
  clear hb h0
  go_wp2_with fail
  refine (b_shl_far 1099511627776 (by decide) (by decide) (by first | exact num_one (x := 1) (by first | rfl | (simp; done)) (by decide) | exact (num_one (x := 1) (by first | rfl | (simp; done)) (by decide)).below (by repeat' (first | exact Below.refl _ _ | refine below_alloc ?_ _)))).mono ?_
  rintro e w11 ⟨rfl, hb⟩
  replace HS := Lib.hid (HS.out.call (by repeat' (first | exact Below.refl _ _ | refine below_alloc ?_ _)) hb)
  clear hb 
  go_wp2_with fail
  refine (b_shr HN.out 262143 (by have := HN.out; omega) (HS.out.get 5 rfl (by repeat' (first | exact Below.refl _ _ | refine below_alloc ?_ _)))).mono ?_
  rintro e w12 ⟨a_x, n_x, c_x, rfl, h0, hb⟩
  have L_x := Lib.hid h0.1
  replace HS := Lib.hid (HS.out.num (by repeat' (first | exact Below.refl _ _ | refine below_alloc ?_ _)) hb h0)
  clear hb h0
  go_wp2_with fail
  refine (div_n 18446744073709551615 170141183460469231713240559642174554113 (by first | exact num_three (x := 0) (y := 0) (z := 9223372036854775808) (by first | rfl | (simp; done)) (by decide) (by decide) (by decide) | exact (num_three (x := 0) (y := 0) (z := 9223372036854775808) (by first | rfl | (simp; done)) (by decide) (by decide) (by decide)).below (by repeat' (first | exact Below.refl _ _ | refine below_alloc ?_ _))) (by first | exact num_two (x := 1) (y := 9223372036854775808) (by first | rfl | (simp; done)) (by decide) (by decide) | exact (num_two (x := 1) (y := 9223372036854775808) (by first | rfl | (simp; done)) (by decide) (by decide)).below (by repeat' (first | exact Below.refl _ _ | refine below_alloc ?_ _))) (by decide) rfl rfl (by decide)).mono ?_
  rintro e w13 ⟨a_q, n_q, c_q, a_r, n_r, c_r, rfl, h0, h1, hb⟩
  have L_q := Lib.hid h0.1
  have L_r := Lib.hid h1.1
  replace HS := Lib.hid ((HS.out.num (by repeat' (first | exact Below.refl _ _ | refine below_alloc ?_ _)) hb h0).num (Below.refl _ _) (Below.refl _ _) h1)
  clear hb h0 h1
  go_wp2_with fail
  refine (num_any 0 _).mono ?_
  rintro e w' ⟨rfl, rfl⟩
  go_wp2_with fail
  refine (same_n (HS.out.get 1 rfl (by repeat' (first | exact Below.refl _ _ | refine below_alloc ?_ _))) (by first | exact num_one (x := 18446744073709551615) (by first | rfl | (simp; done)) (by decide) | exact (num_one (x := 18446744073709551615) (by first | rfl | (simp; done)) (by decide)).below (by repeat' (first | exact Below.refl _ _ | refine below_alloc ?_ _))) (limbs_1 (by decide) (by decide)) (Nat.le_trans (short_limbs _ 1 (by decide) (by decide)) (by decide))).mono ?_
  rintro e w14 ⟨rfl, hb⟩
  replace HS := Lib.hid (HS.out.call (by repeat' (first | exact Below.refl _ _ | refine below_alloc ?_ _)) hb)
  clear hb 
  go_wp2_with fail
  refine (rmul_n 3138550867693340381747753528143363976337937162589842702335 (HS.out.get 1 rfl (by repeat' (first | exact Below.refl _ _ | refine below_alloc ?_ _))) (by first | exact num_two (x := 1) (y := 9223372036854775808) (by first | rfl | (simp; done)) (by decide) (by decide) | exact (num_two (x := 1) (y := 9223372036854775808) (by first | rfl | (simp; done)) (by decide) (by decide)).below (by repeat' (first | exact Below.refl _ _ | refine below_alloc ?_ _))) (by rw [valL_limbs]; rfl) (by have := short_limbs 18446744073709551615 1 (by decide) (by decide); simp; omega)).mono ?_
  rintro e w15 ⟨a_m, n_m, c_m, rfl, h0, hb⟩
  have L_m := Lib.hid h0.1
  replace HS := Lib.hid (HS.out.num (by repeat' (first | exact Below.refl _ _ | refine below_alloc ?_ _)) hb h0)
  clear hb h0
  go_wp2_with fail
  refine (radd_n 3138550867693340381917894711603833208051177722232017256448 (HS.out.get 0 rfl (by repeat' (first | exact Below.refl _ _ | refine below_alloc ?_ _))) (HS.out.get 1 rfl (by repeat' (first | exact Below.refl _ _ | refine below_alloc ?_ _))) (by rw [valL_limbs, valL_limbs]) (by have := short_limbs 3138550867693340381747753528143363976337937162589842702335 3 (by decide) (by decide); have := short_limbs 170141183460469231713240559642174554113 3 (by decide) (by decide); omega)).mono ?_
  rintro e w16 ⟨a_t, n_t, c_t, rfl, h0, hb⟩
  have L_t := Lib.hid h0.1
  replace HS := Lib.hid (HS.out.num (by repeat' (first | exact Below.refl _ _ | refine below_alloc ?_ _)) hb h0)
  clear hb h0
  go_wp2_with fail
  refine (same_n (HS.out.get 0 rfl (by repeat' (first | exact Below.refl _ _ | refine below_alloc ?_ _))) (by first | exact num_three (x := 0) (y := 0) (z := 9223372036854775808) (by first | rfl | (simp; done)) (by decide) (by decide) (by decide) | exact (num_three (x := 0) (y := 0) (z := 9223372036854775808) (by first | rfl | (simp; done)) (by decide) (by decide) (by decide)).below (by repeat' (first | exact Below.refl _ _ | refine below_alloc ?_ _))) limbs_191 (Nat.le_trans (short_limbs _ 3 (by decide) (by decide)) (by decide))).mono ?_
  rintro e w17 ⟨rfl, hb⟩
  replace HS := Lib.hid (HS.out.call (by repeat' (first | exact Below.refl _ _ | refine below_alloc ?_ _)) hb)
  clear hb 
  go_wp2_with fail
  refine (num_any 3 _).mono ?_
  rintro e w' ⟨rfl, rfl⟩
  go_wp2_with fail
  refine (num_any 3 _).mono ?_
  rintro e w' ⟨rfl, rfl⟩
  go_wp2_with fail
  refine (num_any 3 _).mono ?_
  rintro e w' ⟨rfl, rfl⟩
  go_wp2_with fail
  refine (num_any 2 _).mono ?_
  rintro e w' ⟨rfl, rfl⟩
  go_wp2_with fail
  refine (num_any 2 _).mono ?_
  rintro e w' ⟨rfl, rfl⟩
  go_wp2_with fail
  refine (num_any 3 _).mono ?_
  rintro e w' ⟨rfl, rfl⟩
  go_wp2_with fail
  refine (same_n (HS.out.get 8 rfl (by repeat' (first | exact Below.refl _ _ | refine below_alloc ?_ _))) (HS.out.get 10 rfl (by repeat' (first | exact Below.refl _ _ | refine below_alloc ?_ _))) rfl (by rw [bigL_length, HN.out]; decide)).mono ?_
  rintro e w18 ⟨rfl, hb⟩
  replace HS := Lib.hid (HS.out.call (by repeat' (first | exact Below.refl _ _ | refine below_alloc ?_ _)) hb)
  clear hb 
  go_wp2_with fail
  refine (num_any 0 _).mono ?_
  rintro e w' ⟨rfl, rfl⟩
  go_wp2_with fail
  refine (num_any 0 _).mono ?_
  rintro e w' ⟨rfl, rfl⟩
  go_wp2_with fail
  refine (num_any 0 _).mono ?_
  rintro e w' ⟨rfl, rfl⟩
  go_wp2_with fail
  refine (num_any 0 _).mono ?_
  rintro e w' ⟨rfl, rfl⟩
  go_wp2_with fail
  refine (num_any 0 _).mono ?_
  rintro e w' ⟨rfl, rfl⟩
  go_wp2_with fail
  refine (same_n (HS.out.get 6 rfl (by repeat' (first | exact Below.refl _ _ | refine below_alloc ?_ _))) (HS.out.get 10 rfl (by repeat' (first | exact Below.refl _ _ | refine below_alloc ?_ _))) rfl (by rw [bigL_length, HN.out]; decide)).mono ?_
  rintro e w19 ⟨rfl, hb⟩
  replace HS := Lib.hid (HS.out.call (by repeat' (first | exact Below.refl _ _ | refine below_alloc ?_ _)) hb)
  clear hb 
  go_wp2_with fail
  refine (num_any 3 _).mono ?_
  rintro e w' ⟨rfl, rfl⟩
  go_wp2_with fail
  refine (same_n (HS.out.get 4 rfl (by repeat' (first | exact Below.refl _ _ | refine below_alloc ?_ _))) (by first | exact num_one (x := 1) (by first | rfl | (simp; done)) (by decide) | exact (num_one (x := 1) (by first | rfl | (simp; done)) (by decide)).below (by repeat' (first | exact Below.refl _ _ | refine below_alloc ?_ _))) (limbs_1 (by decide) (by decide)) (Nat.le_trans (short_limbs _ 1 (by decide) (by decide)) (by decide))).mono ?_
  rintro e w20 ⟨rfl, hb⟩
  replace HS := Lib.hid (HS.out.call (by repeat' (first | exact Below.refl _ _ | refine below_alloc ?_ _)) hb)
  clear hb 
  go_wp2_with fail
  refine (of_n 0 (by decide)).mono ?_
  rintro e w21 ⟨a_o, n_o, c_o, rfl, h0, hb⟩
  have L_o := Lib.hid h0.1
  replace HS := Lib.hid (HS.out.num (by repeat' (first | exact Below.refl _ _ | refine below_alloc ?_ _)) hb h0)
  clear hb h0
  obtain rfl : n_o = 0 := by have := L_o.out; rw [limbs_zero] at this; exact this
  go_wp2_with fail
  refine (of_n 7 (by decide)).mono ?_
  rintro e w22 ⟨a_s, n_s, c_s, rfl, h0, hb⟩
  have L_s := Lib.hid h0.1
  replace HS := Lib.hid (HS.out.num (by repeat' (first | exact Below.refl _ _ | refine below_alloc ?_ _)) hb h0)
  clear hb h0
  go_wp2_with fail
  refine (same_n (HS.out.get 0 rfl (by repeat' (first | exact Below.refl _ _ | refine below_alloc ?_ _))) (by first | exact num_one (x := 7) (by first | rfl | (simp; done)) (by decide) | exact (num_one (x := 7) (by first | rfl | (simp; done)) (by decide)).below (by repeat' (first | exact Below.refl _ _ | refine below_alloc ?_ _))) (limbs_1 (by decide) (by decide)) (Nat.le_trans (short_limbs _ 1 (by decide) (by decide)) (by decide))).mono ?_
  rintro e w23 ⟨rfl, hb⟩
  replace HS := Lib.hid (HS.out.call (by repeat' (first | exact Below.refl _ _ | refine below_alloc ?_ _)) hb)
  clear hb 
  go_wp2_with fail
  refine (known_any _ (hT.below HS.out.1)).mono ?_
  rintro e w24 ⟨rfl, hb⟩
  replace HS := Lib.hid (HS.out.call (by repeat' (first | exact Below.refl _ _ | refine below_alloc ?_ _)) hb)
  clear hb 
  go_wp2_with fail
  go_ret
  exact ⟨rfl, HS.out.1⟩
end Go.Proofs.YtjfjkabmpiebpaaDoor
