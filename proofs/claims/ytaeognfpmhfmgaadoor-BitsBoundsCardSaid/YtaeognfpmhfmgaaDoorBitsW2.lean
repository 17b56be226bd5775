/-
  The walks of the laws BitsTexts and BitsBounds: for every world that holds the table and every word and text, the call answers true and leaves what the caller sees as it was.
-/
import Derived.Test.YtaeognfpmhfmgaaDoorBitsW1
set_option linter.unusedSimpArgs false
set_option linter.unusedVariables false
namespace Go.Plumb
theorem textB_size (x : Int) : (textB x).size = 16 := by simp [textB, ByteArray.size, textL]
theorem readV_text (x : Int) (h0 : 0 ≤ x) (h1 : x < 18446744073709551616) : readV (textB x) = x := by unfold readV; rw [read_text x h0 h1]; rfl
theorem readE_text (x : Int) (h0 : 0 ≤ x) (h1 : x < 18446744073709551616) : readE (textB x) = 0 := by unfold readE; rw [read_text x h0 h1]; rfl
end Go.Plumb
namespace Go.Proofs.YtaeognfpmhfmgaaDoor
open Go.ChangeShapes Go.WideShapes Go.ChangeAt Go.RowKit Go.Plumb

set_option maxHeartbeats 2000000 in
theorem w_BitsTexts (W : World) (hT : Tab W) (x : Int) (h0 : 0 ≤ x) (h1 : x < 18446744073709551616) (s : ByteArray) (hs : s.size ≤ 9223372036854775807) : Holds Tryd.prog 12 #[.int .u64 x, .string s] W := by
  unfold Holds
  by_cases h9 : (9000 : Int) < (s.size : Int)
  · have h9b : decide ((9000 : Int) < (s.size : Int)) = true := by simpa using h9
    go_enter Tryd.func12, Tryd.ntmps12
    go_wp2_with (first | (go_at_call 19; (with_reducible refine (known_any _ (hT.below (by (repeat' (first | exact Below.refl _ _ | assumption | (refine below_alloc ?_ _) | (refine Below.setCell ?_ ?_ _) | (refine Below.drew ?_) | (refine below_drewN ?_ _))) <;> (first | (simp; done) | (simp; omega) | omega)))).mono ?_); rintro e w' ⟨rfl, hb⟩; have hB := below_step (w0 := W) (by (repeat' (first | exact Below.refl _ _ | assumption | (refine below_alloc ?_ _) | (refine Below.setCell ?_ ?_ _) | (refine Below.drew ?_) | (refine below_drewN ?_ _))) <;> (first | (simp; done) | (simp; omega) | omega)) hb; clear hb))
    go_ret
    exact ⟨rfl, by assumption⟩
  · have h9b : decide ((9000 : Int) < (s.size : Int)) = false := by simpa using h9
    obtain ⟨v, hv⟩ : ∃ v, readV s = v := ⟨_, rfl⟩
    obtain ⟨r, hr⟩ : ∃ r, readE s = r := ⟨_, rfl⟩
    have hvv := beq_rfl' v
    have hrr := beq_rfl' r
    have hxx := beq_rfl' x
    have r1 := readV_text x h0 h1
    have r2 := readE_text x h0 h1
    obtain ⟨t, ht⟩ : ∃ t, textB x = t := ⟨_, rfl⟩
    have hts : t.size ≤ 9223372036854775807 := by rw [← ht, textB_size]; decide
    rw [ht] at r1 r2
    have htt : (t.toList == t.toList) = true := by simp
    clear h9
    go_enter Tryd.func12, Tryd.ntmps12
    go_wp2_with (first | (go_at_call 42; (with_reducible refine (read_any _ _ (by assumption)).mono ?_); rintro e w' ⟨rfl, hb⟩; have hB := below_step (w0 := W) (by (repeat' (first | exact Below.refl _ _ | assumption | (refine below_alloc ?_ _) | (refine Below.setCell ?_ ?_ _) | (refine Below.drew ?_) | (refine below_drewN ?_ _))) <;> (first | (simp; done) | (simp; omega) | omega)) hb; clear hb) | (go_at_call 43; (with_reducible refine (rread_any _ _ (by assumption)).mono ?_); rintro e w' ⟨rfl, rfl⟩) | (go_at_call 44; (with_reducible refine (text_any _ _ (by assumption) (by assumption)).mono ?_); rintro e w' ⟨rfl, hb⟩; have hB := below_step (w0 := W) (by (repeat' (first | exact Below.refl _ _ | assumption | (refine below_alloc ?_ _) | (refine Below.setCell ?_ ?_ _) | (refine Below.drew ?_) | (refine below_drewN ?_ _))) <;> (first | (simp; done) | (simp; omega) | omega)) hb; clear hb) | (go_at_call 45; (with_reducible refine (rtext_any _ _ (by assumption) (by assumption)).mono ?_); rintro e w' ⟨rfl, hb⟩; have hB := below_step (w0 := W) (by (repeat' (first | exact Below.refl _ _ | assumption | (refine below_alloc ?_ _) | (refine Below.setCell ?_ ?_ _) | (refine Below.drew ?_) | (refine below_drewN ?_ _))) <;> (first | (simp; done) | (simp; omega) | omega)) hb; clear hb) | (go_at_call 22; (with_reducible refine (num_any _ _).mono ?_); rintro e w' ⟨rfl, rfl⟩) | (go_at_call 19; (with_reducible refine (known_any _ (hT.below (by (repeat' (first | exact Below.refl _ _ | assumption | (refine below_alloc ?_ _) | (refine Below.setCell ?_ ?_ _) | (refine Below.drew ?_) | (refine below_drewN ?_ _))) <;> (first | (simp; done) | (simp; omega) | omega)))).mono ?_); rintro e w' ⟨rfl, hb⟩; have hB := below_step (w0 := W) (by (repeat' (first | exact Below.refl _ _ | assumption | (refine below_alloc ?_ _) | (refine Below.setCell ?_ ?_ _) | (refine Below.drew ?_) | (refine below_drewN ?_ _))) <;> (first | (simp; done) | (simp; omega) | omega)) hb; clear hb))
    go_ret
    exact ⟨rfl, by assumption⟩

theorem b_of1 (w : World) : Calls Tryd.prog 16 #[.float .f64 4845873199050653696] w fun e w' => e = .returned (.int .u64 4845873199050653696) ∧ w = w' :=
  (of_any 4845873199050653696 w (by decide)).mono fun e w' ⟨h, k⟩ => ⟨h.trans (ret_int (by decide +kernel)), k⟩
theorem b_of2 (w : World) : Calls Tryd.prog 16 #[.float .f64 4845873199050653697] w fun e w' => e = .returned (.int .u64 4845873199050653697) ∧ w = w' :=
  (of_any 4845873199050653697 w (by decide)).mono fun e w' ⟨h, k⟩ => ⟨h.trans (ret_int (by decide +kernel)), k⟩
theorem b_of3 (w : World) : Calls Tryd.prog 16 #[.float .f64 4845873199050653698] w fun e w' => e = .returned (.int .u64 4845873199050653698) ∧ w = w' :=
  (of_any 4845873199050653698 w (by decide)).mono fun e w' ⟨h, k⟩ => ⟨h.trans (ret_int (by decide +kernel)), k⟩
theorem b_of4 (w : World) : Calls Tryd.prog 16 #[.float .f64 4890909195324358656] w fun e w' => e = .returned (.int .u64 4890909195324358656) ∧ w = w' :=
  (of_any 4890909195324358656 w (by decide)).mono fun e w' ⟨h, k⟩ => ⟨h.trans (ret_int (by decide +kernel)), k⟩
theorem b_round1 (w : World) : Calls Tryd.prog 24 #[.agg #[.bool false, .int .u64 9007199254740991, .int .i64 (-1074)], .bool true] w fun e w' => e = .returned (.tuple #[.int .u64 0, .int .i64 2]) ∧ Below w.heap.size w w' :=
  round_bad false 9007199254740991 (-1074) true w (by decide) (by decide)
theorem b_round2 (w : World) : Calls Tryd.prog 24 #[.agg #[.bool false, .int .u64 0, .int .i64 0], .bool true] w fun e w' => e = .returned (.tuple #[.int .u64 0, .int .i64 2]) ∧ Below w.heap.size w w' :=
  round_bad false 0 0 true w (by decide) (by decide)
theorem b_round3 (w : World) : Calls Tryd.prog 24 #[.agg #[.bool true, .int .u64 0, .int .i64 (-1075)], .bool true] w fun e w' => e = .returned (.tuple #[.int .u64 9223372036854775808, .int .i64 0]) ∧ Below w.heap.size w w' :=
  (round_any true 0 (-1075) true w (by decide) (by decide) (by decide)).mono fun e w' ⟨h, k⟩ => ⟨h.trans (ret_two (by decide +kernel) rfl), k⟩
theorem b_round4 (w : World) : Calls Tryd.prog 24 #[.agg #[.bool false, .int .u64 18014398509481983, .int .i64 970], .bool false] w fun e w' => e = .returned (.tuple #[.int .u64 9218868437227405312, .int .i64 0]) ∧ Below w.heap.size w w' :=
  (round_any false 18014398509481983 970 false w (by decide) (by decide) (by decide)).mono fun e w' ⟨h, k⟩ => ⟨h.trans (ret_two (by decide +kernel) rfl), k⟩
theorem b_parts (w : World) : Calls Tryd.prog 20 #[.int .u64 9223372036854775808] w fun e w' => e = .returned (.tuple #[.agg #[.bool true, .int .u64 0, .int .i64 0], .int .i64 0]) ∧ Below w.heap.size w w' :=
  (parts_any 9223372036854775808 w (by decide) (by decide)).mono fun e w' ⟨h, k⟩ => ⟨h.trans (ret_parts (by decide +kernel) (by decide +kernel) (by decide +kernel) (by decide +kernel)), k⟩
theorem b_log (w : World) : Calls Tryd.prog 35 #[.int .u64 1] w fun e w' => e = .returned (.tuple #[.int .i64 (-1074), .int .i64 0]) ∧ Below w.heap.size w w' :=
  (log_any 1 w (by decide) (by decide)).mono fun e w' ⟨h, k⟩ => ⟨h.trans (ret_two (by decide +kernel) (by decide +kernel)), k⟩
theorem b_read (w : World) : Calls Tryd.prog 42 #[.string ⟨#[51, 102, 102, 48, 48, 48, 48, 48, 48, 48, 48, 48, 48, 48, 48, 48]⟩] w fun e w' => e = .returned (.tuple #[.int .u64 0, .int .i64 4]) ∧ Below w.heap.size w w' :=
  (read_any _ w (by decide)).mono fun e w' ⟨h, k⟩ => ⟨h.trans (ret_two (by decide +kernel) (by decide +kernel)), k⟩
theorem b_small (w : World) : Calls Tryd.prog 46 #[.int .u64 5, .int .i64 (-1099511627776), .bool false, .int .u64 0] w fun e w' => e = .returned (.bool true) ∧ Below w.heap.size w w' :=
  lround_any 5 (-1099511627776) false 0 _ w (by decide) (by decide) rfl rfl (by
    unfold roundW
    rw [if_neg (by decide), roundN_small false _ _ (by decide) (by decide)]
    decide)

set_option maxRecDepth 100000 in
set_option maxHeartbeats 4000000 in
theorem w_BitsBounds (w : World) (hT : Tab w) : Holds Tryd.prog 13 #[] w := by
  unfold Holds
  go_enter Tryd.func13, Tryd.ntmps13
  go_wp2_with (first | (go_at_call 24; (with_reducible refine (b_round1 _).mono ?_); rintro e w' ⟨rfl, hb⟩; have hB := below_step (w0 := w) (by (repeat' (first | exact Below.refl _ _ | assumption | (refine below_alloc ?_ _) | (refine Below.setCell ?_ ?_ _) | (refine Below.drew ?_) | (refine below_drewN ?_ _))) <;> (first | (simp; done) | (simp; omega) | omega)) hb; have hN := HoldsA.below (by with_reducible first | assumption | exact HoldsA.new _ _ _ _ _) hb; (try clear a0 a1 a2); (try clear hK); obtain ⟨a0, a1, a2⟩ := id hN; have hK := hN; clear hN hb) | (go_at_call 24; (with_reducible refine (b_round2 _).mono ?_); rintro e w' ⟨rfl, hb⟩; have hB := below_step (w0 := w) (by (repeat' (first | exact Below.refl _ _ | assumption | (refine below_alloc ?_ _) | (refine Below.setCell ?_ ?_ _) | (refine Below.drew ?_) | (refine below_drewN ?_ _))) <;> (first | (simp; done) | (simp; omega) | omega)) hb; have hN := HoldsA.below (by with_reducible first | assumption | exact HoldsA.new _ _ _ _ _) hb; (try clear a0 a1 a2); (try clear hK); obtain ⟨a0, a1, a2⟩ := id hN; have hK := hN; clear hN hb) | (go_at_call 24; (with_reducible refine (b_round3 _).mono ?_); rintro e w' ⟨rfl, hb⟩; have hB := below_step (w0 := w) (by (repeat' (first | exact Below.refl _ _ | assumption | (refine below_alloc ?_ _) | (refine Below.setCell ?_ ?_ _) | (refine Below.drew ?_) | (refine below_drewN ?_ _))) <;> (first | (simp; done) | (simp; omega) | omega)) hb; have hN := HoldsA.below (by with_reducible first | assumption | exact HoldsA.new _ _ _ _ _) hb; (try clear a0 a1 a2); (try clear hK); obtain ⟨a0, a1, a2⟩ := id hN; have hK := hN; clear hN hb) | (go_at_call 24; (with_reducible refine (b_round4 _).mono ?_); rintro e w' ⟨rfl, hb⟩; have hB := below_step (w0 := w) (by (repeat' (first | exact Below.refl _ _ | assumption | (refine below_alloc ?_ _) | (refine Below.setCell ?_ ?_ _) | (refine Below.drew ?_) | (refine below_drewN ?_ _))) <;> (first | (simp; done) | (simp; omega) | omega)) hb; have hN := HoldsA.below (by with_reducible first | assumption | exact HoldsA.new _ _ _ _ _) hb; (try clear a0 a1 a2); (try clear hK); obtain ⟨a0, a1, a2⟩ := id hN; have hK := hN; clear hN hb))
  refine (b_parts _).mono ?_
  rintro e w1 ⟨rfl, hb⟩
  have hB1 := below_step (w0 := w) (by (repeat' (first | exact Below.refl _ _ | assumption | (refine below_alloc ?_ _) | (refine Below.setCell ?_ ?_ _) | (refine Below.drew ?_) | (refine below_drewN ?_ _))) <;> (first | (simp; done) | (simp; omega) | omega)) hb
  have hBn := HoldsB.new w1 (.bool true) (.int .u64 0) (.int .i64 0) 32
  clear hb
  go_wp2_with (first | (go_at_call 35; (with_reducible refine (b_log _).mono ?_); rintro e w' ⟨rfl, hb⟩; have hB := below_step (w0 := w) (by (repeat' (first | exact Below.refl _ _ | assumption | (refine below_alloc ?_ _) | (refine Below.setCell ?_ ?_ _) | (refine Below.drew ?_) | (refine below_drewN ?_ _))) <;> (first | (simp; done) | (simp; omega) | omega)) hb; have hN := HoldsB.below (by with_reducible assumption) hb; (try clear b0 b1 b2); (try clear hK); obtain ⟨b0, b1, b2⟩ := id hN; have hK := hN; clear hN hb) | (go_at_call 42; (with_reducible refine (b_read _).mono ?_); rintro e w' ⟨rfl, hb⟩; have hB := below_step (w0 := w) (by (repeat' (first | exact Below.refl _ _ | assumption | (refine below_alloc ?_ _) | (refine Below.setCell ?_ ?_ _) | (refine Below.drew ?_) | (refine below_drewN ?_ _))) <;> (first | (simp; done) | (simp; omega) | omega)) hb; have hN := HoldsB.below (by with_reducible assumption) hb; (try clear b0 b1 b2); (try clear hK); obtain ⟨b0, b1, b2⟩ := id hN; have hK := hN; clear hN hb) | (go_at_call 22; (with_reducible refine (num_any _ _).mono ?_); rintro e w' ⟨rfl, rfl⟩) | (go_at_call 46; (with_reducible refine (b_small _).mono ?_); rintro e w' ⟨rfl, hb⟩; have hB := below_step (w0 := w) (by (repeat' (first | exact Below.refl _ _ | assumption | (refine below_alloc ?_ _) | (refine Below.setCell ?_ ?_ _) | (refine Below.drew ?_) | (refine below_drewN ?_ _))) <;> (first | (simp; done) | (simp; omega) | omega)) hb; have hN := HoldsB.below (by with_reducible assumption) hb; (try clear b0 b1 b2); (try clear hK); obtain ⟨b0, b1, b2⟩ := id hN; have hK := hN; clear hN hb) | (go_at_call 46; (with_reducible refine (lround_any _ _ _ _ _ _ (by decide) (by decide) (by decide) rfl (by decide +kernel)).mono ?_); rintro e w' ⟨rfl, hb⟩; have hB := below_step (w0 := w) (by (repeat' (first | exact Below.refl _ _ | assumption | (refine below_alloc ?_ _) | (refine Below.setCell ?_ ?_ _) | (refine Below.drew ?_) | (refine below_drewN ?_ _))) <;> (first | (simp; done) | (simp; omega) | omega)) hb; have hN := HoldsB.below (by with_reducible assumption) hb; (try clear b0 b1 b2); (try clear hK); obtain ⟨b0, b1, b2⟩ := id hN; have hK := hN; clear hN hb) | (go_at_call 16; (with_reducible refine (b_of1 _).mono ?_); rintro e w' ⟨rfl, rfl⟩) | (go_at_call 16; (with_reducible refine (b_of2 _).mono ?_); rintro e w' ⟨rfl, rfl⟩) | (go_at_call 16; (with_reducible refine (b_of3 _).mono ?_); rintro e w' ⟨rfl, rfl⟩) | (go_at_call 16; (with_reducible refine (b_of4 _).mono ?_); rintro e w' ⟨rfl, rfl⟩) | (go_at_call 19; (with_reducible refine (known_any _ (hT.below (by (repeat' (first | exact Below.refl _ _ | assumption | (refine below_alloc ?_ _) | (refine Below.setCell ?_ ?_ _) | (refine Below.drew ?_) | (refine below_drewN ?_ _))) <;> (first | (simp; done) | (simp; omega) | omega)))).mono ?_); rintro e w' ⟨rfl, hb⟩; have hB := below_step (w0 := w) (by (repeat' (first | exact Below.refl _ _ | assumption | (refine below_alloc ?_ _) | (refine Below.setCell ?_ ?_ _) | (refine Below.drew ?_) | (refine below_drewN ?_ _))) <;> (first | (simp; done) | (simp; omega) | omega)) hb; clear hb))
  go_ret
  exact ⟨rfl, by (repeat' (first | exact Below.refl _ _ | assumption | (refine below_alloc ?_ _) | (refine Below.setCell ?_ ?_ _) | (refine Below.drew ?_) | (refine below_drewN ?_ _))) <;> (first | (simp; done) | (simp; omega) | omega)⟩

end Go.Proofs.YtaeognfpmhfmgaaDoor
