/-
  The law package of layer 2: known, the chapter's rows (printed by natknown.py).
-/
import Derived.Test.YtjfjkabmpiebpaaDoorNatBl
set_option linter.unusedSimpArgs false
set_option linter.unusedVariables false
namespace Go.Plumb
theorem limbs_1 {x : Nat} (h0 : x ≠ 0) (h : x < 18446744073709551616) : limbs x = [x] := by
  rw [limbs_pos h0, Nat.mod_eq_of_lt h, Nat.div_eq_of_lt h, limbs_zero]
theorem limbs_B : limbs 18446744073709551616 = [0, 1] := by
  rw [limbs_pos (by decide)]
  show _ :: limbs 1 = _
  rw [limbs_1 (by decide) (by decide)]
theorem limbs_MM : limbs 340282366920938463426481119284349108225 = [1, 18446744073709551614] := by
  rw [limbs_pos (by decide)]
  show _ :: limbs 18446744073709551614 = _
  rw [limbs_1 (by decide) (by decide)]
theorem limbs_small : (limbs 18446744073709551616).length ≤ 4096 := by rw [limbs_B]; decide
theorem digs_step {n q r : Nat} (h : n ≠ 0) (hq : n / 10 = q) (hr : n % 10 = r) : digs n = digB r :: digs q := by rw [digs_pos h, hq, hr]
theorem text_B : textN 18446744073709551616 = [49, 56, 52, 52, 54, 55, 52, 52, 48, 55, 51, 55, 48, 57, 53, 53, 49, 54, 49, 54] := by
  unfold textN
  rw [if_neg (by decide)]
  repeat rw [digs_step (by decide) rfl rfl]
  rw [digs_zero]
  rfl
theorem text_two : textN (valL [0, 1]) = [49, 56, 52, 52, 54, 55, 52, 52, 48, 55, 51, 55, 48, 57, 53, 53, 49, 54, 49, 54] := text_B
theorem zeros_two : zerosN (valL [0, 1]) = 64 := by
  apply zeros_bits
  · intro j hj
    show Nat.testBit (2 ^ 64) j = false
    rw [Nat.testBit_two_pow]; simp; omega
  · decide
theorem read_00 : readEN (⟨#[48, 48]⟩ : ByteArray).data.toList = 2 := readEN_bad (fun h => h.2.1 (by decide))
theorem read_ok : okT (⟨#[49, 56, 52, 52, 54, 55, 52, 52, 48, 55, 51, 55, 48, 57, 53, 53, 49, 54, 49, 54]⟩ : ByteArray).data.toList := by
  refine ⟨by decide, by decide, ?_⟩
  unfold DigL
  decide
theorem read_B : readEN (⟨#[49, 56, 52, 52, 54, 55, 52, 52, 48, 55, 51, 55, 48, 57, 53, 53, 49, 54, 49, 54]⟩ : ByteArray).data.toList = 0 ∧ readVN (⟨#[49, 56, 52, 52, 54, 55, 52, 52, 48, 55, 51, 55, 48, 57, 53, 53, 49, 54, 49, 54]⟩ : ByteArray).data.toList = 18446744073709551616 :=
  ⟨readEN_ok read_ok, (readVN_ok read_ok).trans (by decide)⟩
theorem num_cell {W : World} {g c x : Nat} (h : Num W (some ⟨g, 0, none⟩) 1 c [x]) : W.cell? ⟨g, 0, none⟩ = some (.int .u64 (x : Int)) := by
  obtain ⟨b, off, e, hc⟩ := h.2.2.2.2 0 (by simp)
  cases e
  exact hc
end Go.Plumb
namespace Go.Proofs.YtjfjkabmpiebpaaDoor
open Go.RowKit Go.Plumb

set_option maxRecDepth 100000 in
set_option maxHeartbeats 2000000 in
theorem known_any (w : World) (hT : Tab w) : Calls Tryd.prog 16 #[] w fun e w' => e = .returned (.bool true) ∧ Below w.heap.size w w' := by
  have HS : Hid (At w ((w.alloc (.cells #[.int .u64 ((18446744073709551615 : Nat) : Int)] 36)).alloc (.cells #[.int .u64 ((0 : Nat) : Int), .int .u64 ((1 : Nat) : Int)] 36)) [(some ⟨w.heap.size, 0, none⟩, 1, 1, [18446744073709551615]), (some ⟨w.heap.size + 1, 0, none⟩, 2, 2, [0, 1])]) :=
    Lib.hid ⟨by repeat' (first | exact Below.refl _ _ | refine below_alloc ?_ _), (num_one rfl (by decide)).below (by repeat' (first | exact Below.refl _ _ | refine below_alloc ?_ _)), num_two (by simp) (by decide) (by decide), trivial⟩
  go_enter Tryd.func16, Tryd.ntmps16
  go_wp2_with fail
  refine (add_n 18446744073709551616 (HS.out.get 0 rfl (by repeat' (first | exact Below.refl _ _ | refine below_alloc ?_ _))) (by first | exact num_one (x := 1) (by first | rfl | (simp; done)) (by decide) | exact (num_one (x := 1) (by first | rfl | (simp; done)) (by decide)).below (by repeat' (first | exact Below.refl _ _ | refine below_alloc ?_ _))) rfl (by decide)).mono ?_
  rintro e w1 ⟨a_a, n_a, c_a, rfl, h0, hb⟩
  replace HS := Lib.hid (HS.out.num (by repeat' (first | exact Below.refl _ _ | refine below_alloc ?_ _)) hb h0)
  clear hb h0
  go_wp2_with fail
  refine (sub_n 18446744073709551615 (HS.out.get 2 rfl (by repeat' (first | exact Below.refl _ _ | refine below_alloc ?_ _))) (by first | exact num_one (x := 1) (by first | rfl | (simp; done)) (by decide) | exact (num_one (x := 1) (by first | rfl | (simp; done)) (by decide)).below (by repeat' (first | exact Below.refl _ _ | refine below_alloc ?_ _))) rfl (by decide)).mono ?_
  rintro e w2 ⟨a_b, n_b, c_b, rfl, h0, hb⟩
  replace HS := Lib.hid (HS.out.num (by repeat' (first | exact Below.refl _ _ | refine below_alloc ?_ _)) hb h0)
  clear hb h0
  go_wp2_with fail
  refine (sub_n_less (by first | exact num_one (x := 1) (by first | rfl | (simp; done)) (by decide) | exact (num_one (x := 1) (by first | rfl | (simp; done)) (by decide)).below (by repeat' (first | exact Below.refl _ _ | refine below_alloc ?_ _))) (by first | exact num_one (x := 2) (by first | rfl | (simp; done)) (by decide) | exact (num_one (x := 2) (by first | rfl | (simp; done)) (by decide)).below (by repeat' (first | exact Below.refl _ _ | refine below_alloc ?_ _))) (by decide) (by decide)).mono ?_
  rintro e w3 ⟨rfl, hb⟩
  replace HS := Lib.hid (HS.out.call (by repeat' (first | exact Below.refl _ _ | refine below_alloc ?_ _)) hb)
  clear hb 
  go_wp2_with fail
  refine (mul_n 340282366920938463426481119284349108225 (HS.out.get 2 rfl (by repeat' (first | exact Below.refl _ _ | refine below_alloc ?_ _))) (HS.out.get 2 rfl (by repeat' (first | exact Below.refl _ _ | refine below_alloc ?_ _))) rfl (by decide)).mono ?_
  rintro e w4 ⟨a_c, n_c, c_c, rfl, h0, hb⟩
  replace HS := Lib.hid (HS.out.num (by repeat' (first | exact Below.refl _ _ | refine below_alloc ?_ _)) hb h0)
  clear hb h0
  go_wp2_with fail
  refine (div_n 1844674407370955161 6 (HS.out.get 4 rfl (by repeat' (first | exact Below.refl _ _ | refine below_alloc ?_ _))) (by first | exact num_one (x := 10) (by first | rfl | (simp; done)) (by decide) | exact (num_one (x := 10) (by first | rfl | (simp; done)) (by decide)).below (by repeat' (first | exact Below.refl _ _ | refine below_alloc ?_ _))) (by decide) rfl rfl (by decide)).mono ?_
  rintro e w5 ⟨a_q, n_q, c_q, a_r, n_r, c_r, rfl, h0, h1, hb⟩
  replace HS := Lib.hid ((HS.out.num (by repeat' (first | exact Below.refl _ _ | refine below_alloc ?_ _)) hb h0).num (Below.refl _ _) (Below.refl _ _) h1)
  clear hb h0 h1
  go_wp2_with fail
  refine (sqrt_n 4 1 (by first | exact num_one (x := 17) (by first | rfl | (simp; done)) (by decide) | exact (num_one (x := 17) (by first | rfl | (simp; done)) (by decide)).below (by repeat' (first | exact Below.refl _ _ | refine below_alloc ?_ _))) rfl rfl (by decide)).mono ?_
  rintro e w6 ⟨a_s, n_s, c_s, a_t, n_t, c_t, rfl, h0, h1, hb⟩
  replace HS := Lib.hid ((HS.out.num (by repeat' (first | exact Below.refl _ _ | refine below_alloc ?_ _)) hb h0).num (Below.refl _ _) (Below.refl _ _) h1)
  clear hb h0 h1
  go_wp2_with fail
  refine (shl_n 18446744073709551616 64 (by first | exact num_one (x := 1) (by first | rfl | (simp; done)) (by decide) | exact (num_one (x := 1) (by first | rfl | (simp; done)) (by decide)).below (by repeat' (first | exact Below.refl _ _ | refine below_alloc ?_ _))) rfl (by decide) (by decide) limbs_small).mono ?_
  rintro e w7 ⟨a_d, n_d, c_d, rfl, h0, hb⟩
  replace HS := Lib.hid (HS.out.num (by repeat' (first | exact Below.refl _ _ | refine below_alloc ?_ _)) hb h0)
  clear hb h0
  go_wp2_with fail
  refine (shr_n 1 1 (by first | exact num_one (x := 3) (by first | rfl | (simp; done)) (by decide) | exact (num_one (x := 3) (by first | rfl | (simp; done)) (by decide)).below (by repeat' (first | exact Below.refl _ _ | refine below_alloc ?_ _))) rfl (by decide) (by decide)).mono ?_
  rintro e w8 ⟨a_x, n_x, c_x, rfl, h0, hb⟩
  replace HS := Lib.hid (HS.out.num (by repeat' (first | exact Below.refl _ _ | refine below_alloc ?_ _)) hb h0)
  clear hb h0
  rw [show decide (valL [3] % 2 ^ 1 ≠ 0) = true from by decide]
  go_wp2_with fail
  refine (bits_n (Num.nil _) (by decide)).mono ?_
  rintro e w9 ⟨rfl, hb⟩
  replace HS := Lib.hid (HS.out.call (by repeat' (first | exact Below.refl _ _ | refine below_alloc ?_ _)) hb)
  clear hb 
  rw [show lenN (valL []) = 0 from by decide]
  go_wp2_with fail
  refine (bits_n (HS.out.get 10 rfl (by repeat' (first | exact Below.refl _ _ | refine below_alloc ?_ _))) (by decide)).mono ?_
  rintro e w10 ⟨rfl, hb⟩
  replace HS := Lib.hid (HS.out.call (by repeat' (first | exact Below.refl _ _ | refine below_alloc ?_ _)) hb)
  clear hb 
  rw [show lenN (valL [0, 1]) = 65 from by decide]
  go_wp2_with fail
  refine (zeros_n (hT.below HS.out.1) (HS.out.get 10 rfl (by repeat' (first | exact Below.refl _ _ | refine below_alloc ?_ _))) (by decide)).mono ?_
  rintro e w11 ⟨rfl, hb⟩
  replace HS := Lib.hid (HS.out.call (by repeat' (first | exact Below.refl _ _ | refine below_alloc ?_ _)) hb)
  clear hb 
  rw [zeros_two]
  go_wp2_with fail
  refine (text_n (HS.out.get 10 rfl (by repeat' (first | exact Below.refl _ _ | refine below_alloc ?_ _))) (by decide)).mono ?_
  rintro e w12 ⟨rfl, hb⟩
  replace HS := Lib.hid (HS.out.call (by repeat' (first | exact Below.refl _ _ | refine below_alloc ?_ _)) hb)
  clear hb 
  rw [text_two]
  go_wp2_with fail
  refine (read_n _ (by decide)).mono ?_
  rintro e w13 ⟨a_z0, n_z0, c_z0, rfl, h0, hb⟩
  replace HS := Lib.hid (HS.out.num (by repeat' (first | exact Below.refl _ _ | refine below_alloc ?_ _)) hb h0)
  clear hb h0
  rw [read_00]
  go_wp2_with fail
  refine (read_n _ (by decide)).mono ?_
  rintro e w14 ⟨a_y, n_y, c_y, rfl, h0, hb⟩
  replace HS := Lib.hid (HS.out.num (by repeat' (first | exact Below.refl _ _ | refine below_alloc ?_ _)) hb h0)
  clear hb h0
  rw [read_B.1]
  go_wp2_with fail
  refine (is_n (HS.out.get 10 rfl (by repeat' (first | exact Below.refl _ _ | refine below_alloc ?_ _))) (by first | exact num_two (x := 0) (y := 1) (by first | rfl | (simp; done)) (by decide) (by decide) | exact (num_two (x := 0) (y := 1) (by first | rfl | (simp; done)) (by decide) (by decide)).below (by repeat' (first | exact Below.refl _ _ | refine below_alloc ?_ _))) limbs_B (by decide)).mono ?_
  rintro e w15 ⟨rfl, hb⟩
  replace HS := Lib.hid (HS.out.call (by repeat' (first | exact Below.refl _ _ | refine below_alloc ?_ _)) hb)
  have hm := num_cell (HS.out.get 11 rfl (Below.refl _ _))
  clear hb
  go_wp2_with fail
  refine (is_n (HS.out.get 9 rfl (by repeat' (first | exact Below.refl _ _ | refine below_alloc ?_ _))) (by first | exact num_one (x := 18446744073709551615) (by first | rfl | (simp; done)) (by decide) | exact (num_one (x := 18446744073709551615) (by first | rfl | (simp; done)) (by decide)).below (by repeat' (first | exact Below.refl _ _ | refine below_alloc ?_ _))) (limbs_1 (by decide) (by decide)) (by decide)).mono ?_
  rintro e w16 ⟨rfl, hb⟩
  replace HS := Lib.hid (HS.out.call (by repeat' (first | exact Below.refl _ _ | refine below_alloc ?_ _)) hb)
  have hm := num_cell (HS.out.get 11 rfl (Below.refl _ _))
  clear hb
  go_wp2_with fail
  refine (num_any _ _).mono ?_
  rintro e w' ⟨rfl, rfl⟩
  go_wp2_with fail
  refine (is_n (HS.out.get 8 rfl (by repeat' (first | exact Below.refl _ _ | refine below_alloc ?_ _))) (by first | exact num_two (x := 1) (y := 18446744073709551614) (by first | rfl | (simp; done)) (by decide) (by decide) | exact (num_two (x := 1) (y := 18446744073709551614) (by first | rfl | (simp; done)) (by decide) (by decide)).below (by repeat' (first | exact Below.refl _ _ | refine below_alloc ?_ _))) limbs_MM (by decide)).mono ?_
  rintro e w17 ⟨rfl, hb⟩
  replace HS := Lib.hid (HS.out.call (by repeat' (first | exact Below.refl _ _ | refine below_alloc ?_ _)) hb)
  have hm := num_cell (HS.out.get 11 rfl (Below.refl _ _))
  clear hb
  go_wp2_with fail
  refine (is_n (HS.out.get 7 rfl (by repeat' (first | exact Below.refl _ _ | refine below_alloc ?_ _))) (by first | exact num_one (x := 1844674407370955161) (by first | rfl | (simp; done)) (by decide) | exact (num_one (x := 1844674407370955161) (by first | rfl | (simp; done)) (by decide)).below (by repeat' (first | exact Below.refl _ _ | refine below_alloc ?_ _))) (limbs_1 (by decide) (by decide)) (by decide)).mono ?_
  rintro e w18 ⟨rfl, hb⟩
  replace HS := Lib.hid (HS.out.call (by repeat' (first | exact Below.refl _ _ | refine below_alloc ?_ _)) hb)
  have hm := num_cell (HS.out.get 11 rfl (Below.refl _ _))
  clear hb
  go_wp2_with fail
  refine (is_n (HS.out.get 6 rfl (by repeat' (first | exact Below.refl _ _ | refine below_alloc ?_ _))) (by first | exact num_one (x := 6) (by first | rfl | (simp; done)) (by decide) | exact (num_one (x := 6) (by first | rfl | (simp; done)) (by decide)).below (by repeat' (first | exact Below.refl _ _ | refine below_alloc ?_ _))) (limbs_1 (by decide) (by decide)) (by decide)).mono ?_
  rintro e w19 ⟨rfl, hb⟩
  replace HS := Lib.hid (HS.out.call (by repeat' (first | exact Below.refl _ _ | refine below_alloc ?_ _)) hb)
  have hm := num_cell (HS.out.get 11 rfl (Below.refl _ _))
  clear hb
  go_wp2_with fail
  refine (is_n (HS.out.get 5 rfl (by repeat' (first | exact Below.refl _ _ | refine below_alloc ?_ _))) (by first | exact num_one (x := 4) (by first | rfl | (simp; done)) (by decide) | exact (num_one (x := 4) (by first | rfl | (simp; done)) (by decide)).below (by repeat' (first | exact Below.refl _ _ | refine below_alloc ?_ _))) (limbs_1 (by decide) (by decide)) (by decide)).mono ?_
  rintro e w20 ⟨rfl, hb⟩
  replace HS := Lib.hid (HS.out.call (by repeat' (first | exact Below.refl _ _ | refine below_alloc ?_ _)) hb)
  have hm := num_cell (HS.out.get 11 rfl (Below.refl _ _))
  clear hb
  go_wp2_with fail
  refine (is_n (HS.out.get 4 rfl (by repeat' (first | exact Below.refl _ _ | refine below_alloc ?_ _))) (by first | exact num_one (x := 1) (by first | rfl | (simp; done)) (by decide) | exact (num_one (x := 1) (by first | rfl | (simp; done)) (by decide)).below (by repeat' (first | exact Below.refl _ _ | refine below_alloc ?_ _))) (limbs_1 (by decide) (by decide)) (by decide)).mono ?_
  rintro e w21 ⟨rfl, hb⟩
  replace HS := Lib.hid (HS.out.call (by repeat' (first | exact Below.refl _ _ | refine below_alloc ?_ _)) hb)
  have hm := num_cell (HS.out.get 11 rfl (Below.refl _ _))
  clear hb
  go_wp2_with fail
  refine (is_n (HS.out.get 3 rfl (by repeat' (first | exact Below.refl _ _ | refine below_alloc ?_ _))) (by first | exact num_two (x := 0) (y := 1) (by first | rfl | (simp; done)) (by decide) (by decide) | exact (num_two (x := 0) (y := 1) (by first | rfl | (simp; done)) (by decide) (by decide)).below (by repeat' (first | exact Below.refl _ _ | refine below_alloc ?_ _))) limbs_B (by decide)).mono ?_
  rintro e w22 ⟨rfl, hb⟩
  replace HS := Lib.hid (HS.out.call (by repeat' (first | exact Below.refl _ _ | refine below_alloc ?_ _)) hb)
  have hm := num_cell (HS.out.get 11 rfl (Below.refl _ _))
  clear hb
  go_wp2_with fail
  refine (is_n (HS.out.get 2 rfl (by repeat' (first | exact Below.refl _ _ | refine below_alloc ?_ _))) (by first | exact num_one (x := 1) (by first | rfl | (simp; done)) (by decide) | exact (num_one (x := 1) (by first | rfl | (simp; done)) (by decide)).below (by repeat' (first | exact Below.refl _ _ | refine below_alloc ?_ _))) (limbs_1 (by decide) (by decide)) (by decide)).mono ?_
  rintro e w23 ⟨rfl, hb⟩
  replace HS := Lib.hid (HS.out.call (by repeat' (first | exact Below.refl _ _ | refine below_alloc ?_ _)) hb)
  have hm := num_cell (HS.out.get 11 rfl (Below.refl _ _))
  clear hb
  go_wp2_with fail
  refine (num_any _ _).mono ?_
  rintro e w' ⟨rfl, rfl⟩
  go_wp2_with fail
  refine (num_any _ _).mono ?_
  rintro e w' ⟨rfl, rfl⟩
  go_wp2_with fail
  refine (num_any _ _).mono ?_
  rintro e w' ⟨rfl, rfl⟩
  go_wp2_with fail
  refine (num_any _ _).mono ?_
  rintro e w' ⟨rfl, rfl⟩
  go_wp2_with fail
  refine (num_any _ _).mono ?_
  rintro e w' ⟨rfl, rfl⟩
  go_wp2_with fail
  refine (is_n (HS.out.get 0 rfl (by repeat' (first | exact Below.refl _ _ | refine below_alloc ?_ _))) (by first | exact num_two (x := 0) (y := 1) (by first | rfl | (simp; done)) (by decide) (by decide) | exact (num_two (x := 0) (y := 1) (by first | rfl | (simp; done)) (by decide) (by decide)).below (by repeat' (first | exact Below.refl _ _ | refine below_alloc ?_ _))) (by rw [read_B.2]; exact limbs_B) (by decide)).mono ?_
  rintro e wz ⟨rfl, hb⟩
  replace HS := Lib.hid (HS.out.call (by repeat' (first | exact Below.refl _ _ | refine below_alloc ?_ _)) hb)
  clear hb
  go_wp2_with fail
  go_ret
  exact ⟨rfl, HS.out.1⟩
end Go.Proofs.YtjfjkabmpiebpaaDoor

