/-
  The chapter's rows ('known') are as they are said.
-/
import Derived.Test.YtaeognfpmhfmgaaDoorBitsY
set_option linter.unusedSimpArgs false
set_option linter.unusedVariables false
namespace Go.Plumb
open Go.RowKit
/-- Three cells of a block (a struct of three fields) hold these. -/
def HoldsA (W : World) (b : Nat) (x y z : Value) : Prop := W.cell? ⟨b, 0, none⟩ = some x ∧ W.cell? ⟨b, 1, none⟩ = some y ∧ W.cell? ⟨b, 2, none⟩ = some z
def HoldsB (W : World) (b : Nat) (x y z : Value) : Prop := W.cell? ⟨b, 0, none⟩ = some x ∧ W.cell? ⟨b, 1, none⟩ = some y ∧ W.cell? ⟨b, 2, none⟩ = some z
theorem lt_of_cell {W : World} {a : Addr} {v : Value} (h : W.cell? a = some v) : a.block < W.heap.size := by
  apply Nat.lt_of_not_le
  intro hle
  have e : W.heap[a.block]? = none := Array.getElem?_eq_none hle
  simp [World.cell?, e] at h
theorem HoldsA.below {W w' : World} {b : Nat} {x y z : Value} (h : HoldsA W b x y z) (hb : Below W.heap.size W w') : HoldsA w' b x y z := by
  obtain ⟨h1, h2, h3⟩ := h
  have hl := lt_of_cell h1
  exact ⟨(hb.cell (p := ⟨b, 0, none⟩) hl).trans h1, (hb.cell (p := ⟨b, 1, none⟩) hl).trans h2, (hb.cell (p := ⟨b, 2, none⟩) hl).trans h3⟩
theorem HoldsB.below {W w' : World} {b : Nat} {x y z : Value} (h : HoldsB W b x y z) (hb : Below W.heap.size W w') : HoldsB w' b x y z := HoldsA.below h hb
theorem HoldsA.new (W : World) (x y z : Value) (t : TypeId) : HoldsA (W.alloc (.cells #[x, y, z] t)) W.heap.size x y z :=
  ⟨World.cell?_alloc_at (hn := rfl) .., World.cell?_alloc_at (hn := rfl) .., World.cell?_alloc_at (hn := rfl) ..⟩
theorem HoldsB.new (W : World) (x y z : Value) (t : TypeId) : HoldsB (W.alloc (.cells #[x, y, z] t)) W.heap.size x y z := HoldsA.new W x y z t
theorem HoldsA.alloc {W : World} {b : Nat} {x y z : Value} (h : HoldsA W b x y z) (o : Obj) : HoldsA (W.alloc o) b x y z := h.below (below_alloc (Below.refl _ _) o)
end Go.Plumb
namespace Go.Proofs.YtaeognfpmhfmgaaDoor
open Go.RowKit Go.Plumb

theorem num_any (n : Int) (w : World) : Calls Tryd.prog 22 #[.int .i64 n] w fun e w' => e = .returned (.int .i64 n) ∧ w = w' := by
  go_enter Tryd.func22, Tryd.ntmps22
  go_wp2
  go_ret
  exact ⟨rfl, rfl⟩

theorem lround_any (m e : Int) (more : Bool) (want r : Int) (w : World) (h0 : 0 ≤ m) (h1 : m < 18446744073709551616) (hb : roundBad m e more = false) (hr : roundW false m e more = r) (hw : r = want) :
    Calls Tryd.prog 46 #[.int .u64 m, .int .i64 e, .bool more, .int .u64 want] w fun e w' => e = .returned (.bool true) ∧ Below w.heap.size w w' := by
  subst hw
  have hrr : (r == r) = true := by simp
  go_enter Tryd.func46, Tryd.ntmps46
  go_wp2_with (first | (go_at_call 24; (with_reducible refine (round_any _ _ _ _ _ (by assumption) (by assumption) (by assumption)).mono ?_); rintro e w' ⟨rfl, hb⟩; have hB := below_step (w0 := w) (by (repeat' (first | exact Below.refl _ _ | assumption | (refine below_alloc ?_ _) | (refine Below.setCell ?_ ?_ _) | (refine Below.drew ?_) | (refine below_drewN ?_ _))) <;> (first | (simp; done) | (simp; omega) | omega)) hb; have hs := hb.size; (try simp at hs); clear hb) | (go_at_call 22; (with_reducible refine (num_any _ _).mono ?_); rintro e w' ⟨rfl, rfl⟩))
  go_ret
  exact ⟨rfl, by (repeat' (first | exact Below.refl _ _ | assumption | (refine below_alloc ?_ _) | (refine Below.setCell ?_ ?_ _) | (refine Below.drew ?_) | (refine below_drewN ?_ _))) <;> (first | (simp; done) | (simp; omega) | omega)⟩

/-! The rows, one by one. -/
theorem k_of1 (w : World) : Calls Tryd.prog 16 #[.float .f64 4607182418800017408] w fun e w' => e = .returned (.int .u64 4607182418800017408) ∧ w = w' :=
  (of_any 4607182418800017408 w (by decide)).mono fun e w' ⟨h, k⟩ => ⟨h.trans (ret_int (by decide +kernel)), k⟩
theorem k_of3 (w : World) : Calls Tryd.prog 16 #[.float .f64 4613937818241073152] w fun e w' => e = .returned (.int .u64 4613937818241073152) ∧ w = w' :=
  (of_any 4613937818241073152 w (by decide)).mono fun e w' ⟨h, k⟩ => ⟨h.trans (ret_int (by decide +kernel)), k⟩
theorem ret_parts {n n' : Bool} {m m' e e' r r' : Int} (h1 : n = n') (h2 : m = m') (h3 : e = e') (h4 : r = r') : Ending.returned (.tuple #[.agg #[.bool n, .int .u64 m, .int .i64 e], .int .i64 r]) = .returned (.tuple #[.agg #[.bool n', .int .u64 m', .int .i64 e'], .int .i64 r']) := by rw [h1, h2, h3, h4]
theorem k_parts1 (w : World) : Calls Tryd.prog 20 #[.int .u64 4607182418800017408] w fun e w' => e = .returned (.tuple #[.agg #[.bool false, .int .u64 4503599627370496, .int .i64 (-52)], .int .i64 0]) ∧ Below w.heap.size w w' :=
  (parts_any 4607182418800017408 w (by decide) (by decide)).mono fun e w' ⟨h, k⟩ => ⟨h.trans (ret_parts (by decide +kernel) (by decide +kernel) (by decide +kernel) (by decide +kernel)), k⟩
theorem k_parts2 (w : World) : Calls Tryd.prog 20 #[.int .u64 1] w fun e w' => e = .returned (.tuple #[.agg #[.bool false, .int .u64 1, .int .i64 (-1074)], .int .i64 0]) ∧ Below w.heap.size w w' :=
  (parts_any 1 w (by decide) (by decide)).mono fun e w' ⟨h, k⟩ => ⟨h.trans (ret_parts (by decide +kernel) (by decide +kernel) (by decide +kernel) (by decide +kernel)), k⟩
theorem k_exact1 (w : World) (hT : Tab w) : Calls Tryd.prog 23 #[.agg #[.bool false, .int .u64 3, .int .i64 (-1074)]] w fun e w' => e = .returned (.tuple #[.int .u64 3, .int .i64 0]) ∧ Below w.heap.size w w' :=
  (exact_any false 3 (-1074) w (by decide) (by decide) hT).mono fun e w' ⟨h, k⟩ => ⟨h.trans (ret_two (by decide +kernel) (by decide +kernel)), k⟩
theorem k_exact2 (w : World) (hT : Tab w) : Calls Tryd.prog 23 #[.agg #[.bool false, .int .u64 1, .int .i64 (-1075)]] w fun e w' => e = .returned (.tuple #[.int .u64 0, .int .i64 6]) ∧ Below w.heap.size w w' :=
  (exact_any false 1 (-1075) w (by decide) (by decide) hT).mono fun e w' ⟨h, k⟩ => ⟨h.trans (ret_two (by decide +kernel) (by decide +kernel)), k⟩
theorem k_exact3 (w : World) (hT : Tab w) : Calls Tryd.prog 23 #[.agg #[.bool false, .int .u64 1, .int .i64 1024]] w fun e w' => e = .returned (.tuple #[.int .u64 0, .int .i64 6]) ∧ Below w.heap.size w w' :=
  (exact_any false 1 1024 w (by decide) (by decide) hT).mono fun e w' ⟨h, k⟩ => ⟨h.trans (ret_two (by decide +kernel) (by decide +kernel)), k⟩
theorem k_compare (w : World) : Calls Tryd.prog 31 #[.int .u64 0, .int .u64 9223372036854775808] w fun e w' => e = .returned (.tuple #[.int .i64 0, .int .i64 0]) ∧ Below w.heap.size w w' :=
  (compare_any 0 9223372036854775808 w (by decide) (by decide) (by decide) (by decide)).mono fun e w' ⟨h, k⟩ => ⟨h.trans (ret_two (by decide +kernel) (by decide +kernel)), k⟩
theorem k_up (w : World) : Calls Tryd.prog 37 #[.int .u64 9223372036854775808] w fun e w' => e = .returned (.tuple #[.int .u64 1, .int .i64 0]) ∧ Below w.heap.size w w' :=
  (up_any 9223372036854775808 w (by decide) (by decide)).mono fun e w' ⟨h, k⟩ => ⟨h.trans (ret_two (by decide +kernel) (by decide +kernel)), k⟩
theorem k_down (w : World) : Calls Tryd.prog 38 #[.int .u64 0] w fun e w' => e = .returned (.tuple #[.int .u64 9223372036854775809, .int .i64 0]) ∧ Below w.heap.size w w' :=
  (down_any 0 w (by decide) (by decide)).mono fun e w' ⟨h, k⟩ => ⟨h.trans (ret_two (by decide +kernel) (by decide +kernel)), k⟩
theorem k_steps (w : World) : Calls Tryd.prog 32 #[.int .u64 9223372036854775809, .int .u64 1] w fun e w' => e = .returned (.tuple #[.int .u64 2, .int .i64 0]) ∧ Below w.heap.size w w' :=
  (steps_any 9223372036854775809 1 w (by decide) (by decide) (by decide) (by decide)).mono fun e w' ⟨h, k⟩ => ⟨h.trans (ret_two (by decide +kernel) (by decide +kernel)), k⟩
theorem k_log (w : World) : Calls Tryd.prog 35 #[.int .u64 4613937818241073152] w fun e w' => e = .returned (.tuple #[.int .i64 1, .int .i64 0]) ∧ Below w.heap.size w w' :=
  (log_any 4613937818241073152 w (by decide) (by decide)).mono fun e w' ⟨h, k⟩ => ⟨h.trans (ret_two (by decide +kernel) (by decide +kernel)), k⟩
theorem k_scale1 (w : World) : Calls Tryd.prog 29 #[.int .u64 4607182418800017408, .int .i64 (-1074)] w fun e w' => e = .returned (.int .u64 1) ∧ Below w.heap.size w w' :=
  (scale_any 4607182418800017408 (-1074) w (by decide) (by decide)).mono fun e w' ⟨h, k⟩ => ⟨h.trans (ret_int (by decide +kernel)), k⟩
theorem k_scale2 (w : World) : Calls Tryd.prog 29 #[.int .u64 4607182418800017408, .int .i64 (-1075)] w fun e w' => e = .returned (.int .u64 0) ∧ Below w.heap.size w w' :=
  (scale_any 4607182418800017408 (-1075) w (by decide) (by decide)).mono fun e w' ⟨h, k⟩ => ⟨h.trans (ret_int (by decide +kernel)), k⟩
theorem k_scale3 (w : World) : Calls Tryd.prog 29 #[.int .u64 4607182418800017408, .int .i64 1024] w fun e w' => e = .returned (.int .u64 9218868437227405312) ∧ Below w.heap.size w w' :=
  (scale_any 4607182418800017408 1024 w (by decide) (by decide)).mono fun e w' ⟨h, k⟩ => ⟨h.trans (ret_int (by decide +kernel)), k⟩
theorem k_text (w : World) : Calls Tryd.prog 44 #[.int .u64 4607182418800017408] w fun e w' => e = .returned (.string ⟨#[51, 70, 70, 48, 48, 48, 48, 48, 48, 48, 48, 48, 48, 48, 48, 48]⟩) ∧ Below w.heap.size w w' :=
  (text_any 4607182418800017408 w (by decide) (by decide)).mono fun e w' ⟨h, k⟩ => ⟨h.trans (by rw [show textB 4607182418800017408 = ⟨#[51, 70, 70, 48, 48, 48, 48, 48, 48, 48, 48, 48, 48, 48, 48, 48]⟩ by decide +kernel]), k⟩
theorem k_round1 (w : World) : Calls Tryd.prog 46 #[.int .u64 1, .int .i64 (-1075), .bool false, .int .u64 0] w fun e w' => e = .returned (.bool true) ∧ Below w.heap.size w w' :=
  lround_any 1 (-1075) false 0 _ w (by decide) (by decide) rfl rfl (by decide +kernel)
theorem k_round2 (w : World) : Calls Tryd.prog 46 #[.int .u64 1, .int .i64 (-1075), .bool true, .int .u64 1] w fun e w' => e = .returned (.bool true) ∧ Below w.heap.size w w' :=
  lround_any 1 (-1075) true 1 _ w (by decide) (by decide) (by decide) rfl (by decide +kernel)
theorem k_round3 (w : World) : Calls Tryd.prog 46 #[.int .u64 3, .int .i64 (-1075), .bool false, .int .u64 2] w fun e w' => e = .returned (.bool true) ∧ Below w.heap.size w w' :=
  lround_any 3 (-1075) false 2 _ w (by decide) (by decide) rfl rfl (by decide +kernel)

end Go.Proofs.YtaeognfpmhfmgaaDoor
