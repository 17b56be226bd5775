/-
  Walks of the laws of layer 1: BitsClass ..
-/
import Derived.Test.YtaeognfpmhfmgaaDoorBitsKnown
import Derived.Test.YtaeognfpmhfmgaaDoorCards
set_option linter.unusedSimpArgs false
set_option linter.unusedVariables false
namespace Go.Plumb
theorem HoldsA.drew {W : World} {b : Nat} {x y z : Value} (h : HoldsA W b x y z) : HoldsA W.drew b x y z := h
theorem roundN_exact (neg : Bool) (n : Nat) (e : Int) (h : n ≠ 0) (hd : dropN n e = 0) : roundN neg n e = wordN neg (min ((e + 1074).toNat * 4503599627370496 + n) 9218868437227405312) := by
  unfold roundN
  rw [if_neg h, hd]
  unfold keptN
  simp
/-- A finite word's parts are rounded to the word. -/
theorem parts_round (x : Int) (h0 : 0 ≤ x) (h1 : x < 18446744073709551616) (hc : classI x ≤ 3) : roundW (pNeg x) (pMan x) (pExp x) false = x := by
  have hneg : pNeg x = decide (9223372036854775808 ≤ x) := by
    unfold pNeg
    simp only [hc, decide_true, Bool.true_and]
    rw [Bool.eq_iff_iff]; simp; omega
  have hcs : classI x = 1 ∨ classI x = 2 ∨ classI x = 3 := by have := classI_cases x; omega
  unfold roundW
  simp only [Bool.false_eq_true, if_false]
  rcases hcs with hk | hk | hk
  · have hm : pMan x = 0 := by
      unfold pMan; rw [if_neg (by omega), if_pos (by omega)]
      unfold classI at hk; (repeat' split at hk) <;> omega
    have hf : x / 4503599627370496 % 2048 = 0 ∧ x % 4503599627370496 = 0 := by
      unfold classI at hk; (repeat' split at hk) <;> omega
    rw [hm]
    show (wordN (pNeg x) 0 : Int) = x
    rw [wordN_sign, hneg]
    by_cases hs : 9223372036854775808 ≤ x
    · simp only [hs, decide_true, if_true]; omega
    · simp only [hs, decide_false, Bool.false_eq_true, if_false]; omega
  · have hm : pMan x = x % 4503599627370496 := by unfold pMan; rw [if_neg (by omega), if_pos (by omega)]
    have he : pExp x = -1074 := by unfold pExp; rw [if_neg (by omega), if_pos hk]
    have hf : x / 4503599627370496 % 2048 = 0 ∧ ¬ x % 4503599627370496 = 0 := by
      unfold classI at hk; (repeat' split at hk) <;> omega
    rw [hm, he]
    have hl := lenN_le (x % 4503599627370496).toNat 52 (by simp only [Nat.reducePow]; omega)
    rw [roundN_exact _ _ _ (by omega) (by unfold dropN; omega), wordN_sign, hneg]
    have e0 : ((-1074 : Int) + 1074).toNat = 0 := rfl
    rw [e0]
    by_cases hs : 9223372036854775808 ≤ x
    · simp only [hs, decide_true, if_true]; omega
    · simp only [hs, decide_false, Bool.false_eq_true, if_false]; omega
  · have hm : pMan x = 4503599627370496 + x % 4503599627370496 := by unfold pMan; rw [if_pos hk]
    have he : pExp x = x / 4503599627370496 % 2048 - 1075 := by unfold pExp; rw [if_pos hk]
    have hf : ¬ x / 4503599627370496 % 2048 = 0 ∧ ¬ x / 4503599627370496 % 2048 = 2047 := by
      unfold classI at hk; (repeat' split at hk) <;> omega
    rw [hm, he]
    have hl : lenN (4503599627370496 + x % 4503599627370496).toNat = 53 := lenN_eq (k := 52) (by simp only [Nat.reducePow]; omega) (by simp only [Nat.reduceAdd, Nat.reducePow]; omega)
    rw [roundN_exact _ _ _ (by omega) (by unfold dropN; omega), wordN_sign, hneg]
    by_cases hs : 9223372036854775808 ≤ x
    · simp only [hs, decide_true, if_true]; omega
    · simp only [hs, decide_false, Bool.false_eq_true, if_false]; omega
theorem parts_exact (x : Int) (h0 : 0 ≤ x) (h1 : x < 18446744073709551616) (hc : classI x ≤ 3) : exactB (pNeg x) (pMan x) (pExp x) = true := by
  unfold exactB
  rw [parts_round x h0 h1 hc, (pErr_class x).2 hc]
  simp
end Go.Plumb
namespace Go.Proofs.YtaeognfpmhfmgaaDoor
open Go.ChangeShapes Go.WideShapes Go.ChangeAt Go.RowKit Go.Plumb

theorem own : ownKnob Tryd.prog.godebug = none := by kernel_rfl
theorem gTab : Tryd.prog.globalNamed "math/bits.deBruijn64tab" = some 1 := by kernel_rfl
theorem gTabType : (Tryd.prog.globals[(1 : Nat)]?).map (·.type) = some 76 := by kernel_rfl
theorem cellsTab : Tryd.prog.cellsOf 76 = 64 := by kernel_rfl
theorem cellsU8 : Tryd.prog.cellsOf 5 = 1 := by kernel_rfl
def tabInts : List Int := Lib.deBruijn64tab.map Int.ofNat
/-- What every row's list gives: the table's cells hold its numbers. -/
theorem tab_of {W : World} (h : laidMetH Tryd.prog [("math/bits.deBruijn64tab", Rows.laid_math_bits_deBruijn64tab)] W) : Tab W := by
  have ht : Lib.TabIs Tryd.prog W "math/bits.deBruijn64tab" .u8 tabInts :=
    Lib.tabIs_of_head (rest := []) gTab gTabType Tryd.underlying76 Tryd.underlying5 cellsU8 cellsTab h
  intro j hj
  have := ht.cell gTab j (by simpa [tabInts, Lib.deBruijn64tab] using hj)
  rw [this]
  have e : tabInts.getD j 0 = ((Lib.deBruijn64tab.getD j 0 : Nat) : Int) := by
    unfold tabInts
    simp only [List.getD, List.getElem?_map]
    cases Lib.deBruijn64tab[j]? <;> rfl
  rw [e]
/-- A world for the witnesses: the settled one, the table holding what its initialiser lays. -/
noncomputable def laidWorld (os : Os) : World :=
  { World.holding Tryd.prog os ⟨#[], #[], []⟩ with heap := (World.holding Tryd.prog os ⟨#[], #[], []⟩).heap.modify 1 fun
      | .cells _ t frozen => .cells (tabInts.map fun n => Value.int .u8 n).toArray t frozen
      | o => o }

set_option maxHeartbeats 1000000 in
theorem w_BitsClass (W : World) (hT : Tab W) (x : Int) (h0 : 0 ≤ x) (h1 : x < 18446744073709551616) : Holds Tryd.prog 11 #[.int .u64 x] W := by
  unfold Holds
  obtain ⟨c, hc⟩ : ∃ c, classI x = c := ⟨_, rfl⟩
  obtain ⟨n, hn⟩ : ∃ n, negI x = n := ⟨_, rfl⟩
  have hcc : (c == c) = true := by simp
  have hnn : (n == n) = true := by simp
  go_enter Tryd.func11, Tryd.ntmps11
  go_wp2_with (first | (go_at_call 39; (with_reducible refine (class_any _ _ (by assumption) (by assumption)).mono ?_); rintro e w' ⟨rfl, rfl⟩) | (go_at_call 15; (with_reducible refine (rclass_any _ _ (by assumption) (by assumption)).mono ?_); rintro e w' ⟨rfl, rfl⟩) | (go_at_call 40; (with_reducible refine (negate_any _ _ (by assumption) (by assumption)).mono ?_); rintro e w' ⟨rfl, rfl⟩) | (go_at_call 41; (with_reducible refine (rnegate_any _ _ (by assumption) (by assumption)).mono ?_); rintro e w' ⟨rfl, rfl⟩) | (go_at_call 19; (with_reducible refine (known_any _ hT).mono ?_); rintro e w' ⟨rfl, hb⟩))
  go_ret
  exact ⟨rfl, hb⟩

theorem beq_rfl' (a : Int) : (a == a) = true := by simp

set_option maxHeartbeats 1000000 in
theorem w_BitsFloat (W : World) (hT : Tab W) (x : Int) (h0 : 0 ≤ x) (h1 : x < 18446744073709551616) : Holds Tryd.prog 3 #[.int .u64 x] W := by
  unfold Holds
  have hr := run_bits
  have hxn : (x.toNat : Int) = x := by omega
  have hxl : x.toNat < 18446744073709551616 := by omega
  obtain ⟨b, hb⟩ : ∃ b, (classI x == 5) = b := ⟨_, rfl⟩
  have hne : (FloatKind.f64.format.order x.toNat x.toNat != some Ordering.eq) = b := by
    have := ne_self_iff x.toNat hxl
    rw [hxn] at this
    rw [← hb, Bool.eq_iff_iff, this]; simp
  obtain ⟨n, hn⟩ : ∃ n, oneI x = n := ⟨_, rfl⟩
  have hnn := beq_rfl' n
  have hxx := beq_rfl' x
  cases b
  all_goals
    go_enter Tryd.func3, Tryd.ntmps3
    go_wp2_with (first | (go_at_call 14; (with_reducible refine (float_any _ _).mono ?_); rintro e w' ⟨rfl, rfl⟩) | (go_at_call 16; (with_reducible refine (of_any _ _ (by assumption)).mono ?_); rintro e w' ⟨rfl, rfl⟩) | (go_at_call 15; (with_reducible refine (rclass_any _ _ (by assumption) (by assumption)).mono ?_); rintro e w' ⟨rfl, rfl⟩) | (go_at_call 17; (with_reducible refine (rone_any _ _ (by assumption) (by assumption)).mono ?_); rintro e w' ⟨rfl, rfl⟩) | (go_at_call 19; (with_reducible refine (known_any _ (hT.below (by (repeat' (first | exact Below.refl _ _ | assumption | (refine below_alloc ?_ _) | (refine Below.setCell ?_ ?_ _) | (refine Below.drew ?_) | (refine below_drewN ?_ _))) <;> (first | (simp; done) | (simp; omega) | omega)))).mono ?_); rintro e w' ⟨rfl, hb⟩; have hB := below_step (w0 := W) (by (repeat' (first | exact Below.refl _ _ | assumption | (refine below_alloc ?_ _) | (refine Below.setCell ?_ ?_ _) | (refine Below.drew ?_) | (refine below_drewN ?_ _))) <;> (first | (simp; done) | (simp; omega) | omega)) hb; clear hb))
    go_ret
    exact ⟨rfl, by assumption⟩

set_option maxHeartbeats 2000000 in
theorem w_BitsExact (W : World) (hT : Tab W) (neg : Bool) (m e : Int) (h0 : 0 ≤ m) (h1 : m < 18446744073709551616) (_e0 : -9223372036854775808 ≤ e) (_e1 : e < 9223372036854775808) : Holds Tryd.prog 5 #[.agg #[.bool neg, .int .u64 m, .int .i64 e]] W := by
  unfold Holds
  obtain ⟨b, hb⟩ : ∃ b, exactB neg m e = b := ⟨_, rfl⟩
  obtain ⟨r, hr⟩ : ∃ r, roundW neg m e false = r := ⟨_, rfl⟩
  have hrr := beq_rfl' r
  cases b
  all_goals
    go_enter Tryd.func5, Tryd.ntmps5
    go_wp2_with (first | (go_at_call 23; (with_reducible refine (exact_any _ _ _ _ (by assumption) (by assumption) (hT.below (by (repeat' (first | exact Below.refl _ _ | assumption | (refine below_alloc ?_ _) | (refine Below.setCell ?_ ?_ _) | (refine Below.drew ?_) | (refine below_drewN ?_ _))) <;> (first | (simp; done) | (simp; omega) | omega)))).mono ?_); rintro e w' ⟨rfl, hb⟩; have hB := below_step (w0 := W) (by (repeat' (first | exact Below.refl _ _ | assumption | (refine below_alloc ?_ _) | (refine Below.setCell ?_ ?_ _) | (refine Below.drew ?_) | (refine below_drewN ?_ _))) <;> (first | (simp; done) | (simp; omega) | omega)) hb; have hs := hb.size; (try simp at hs); (try have hz0 : W.heap.size < w'.heap.size := by omega); (try have hz1 : W.heap.size + 1 < w'.heap.size := by omega); (try have hz2 : W.heap.size + 1 + 1 < w'.heap.size := by omega); obtain ⟨hc, hf⟩ := bcell hb; clear hb) | (go_at_call 26; (with_reducible refine (rexact_any _ _ _ _ (by assumption) (by assumption)).mono ?_); rintro e w' ⟨rfl, hb⟩; have hB := below_step (w0 := W) (by (repeat' (first | exact Below.refl _ _ | assumption | (refine below_alloc ?_ _) | (refine Below.setCell ?_ ?_ _) | (refine Below.drew ?_) | (refine below_drewN ?_ _))) <;> (first | (simp; done) | (simp; omega) | omega)) hb; clear hb) | (go_at_call 22; (with_reducible refine (num_any _ _).mono ?_); rintro e w' ⟨rfl, rfl⟩) | (go_at_call 19; (with_reducible refine (known_any _ (hT.below (by (repeat' (first | exact Below.refl _ _ | assumption | (refine below_alloc ?_ _) | (refine Below.setCell ?_ ?_ _) | (refine Below.drew ?_) | (refine below_drewN ?_ _))) <;> (first | (simp; done) | (simp; omega) | omega)))).mono ?_); rintro e w' ⟨rfl, hb⟩; have hB := below_step (w0 := W) (by (repeat' (first | exact Below.refl _ _ | assumption | (refine below_alloc ?_ _) | (refine Below.setCell ?_ ?_ _) | (refine Below.drew ?_) | (refine below_drewN ?_ _))) <;> (first | (simp; done) | (simp; omega) | omega)) hb; clear hb))
    go_ret
    exact ⟨rfl, by assumption⟩

set_option maxHeartbeats 2000000 in
theorem w_BitsRound (W : World) (hT : Tab W) (neg : Bool) (m e : Int) (h0 : 0 ≤ m) (h1 : m < 18446744073709551616) (_e0 : -9223372036854775808 ≤ e) (_e1 : e < 9223372036854775808) (more : Bool) : Holds Tryd.prog 6 #[.agg #[.bool neg, .int .u64 m, .int .i64 e], .bool more] W := by
  unfold Holds
  obtain ⟨b, hb⟩ : ∃ b, roundBad m e more = b := ⟨_, rfl⟩
  obtain ⟨r, hr⟩ : ∃ r, roundW neg m e more = r := ⟨_, rfl⟩
  have hrr := beq_rfl' r
  cases b
  · go_enter Tryd.func6, Tryd.ntmps6
    go_wp2_with (first | (go_at_call 24; (with_reducible refine (round_any _ _ _ _ _ (by assumption) (by assumption) (by assumption)).mono ?_); rintro e w' ⟨rfl, hb⟩; have hB := below_step (w0 := W) (by (repeat' (first | exact Below.refl _ _ | assumption | (refine below_alloc ?_ _) | (refine Below.setCell ?_ ?_ _) | (refine Below.drew ?_) | (refine below_drewN ?_ _))) <;> (first | (simp; done) | (simp; omega) | omega)) hb; have hs := hb.size; (try simp at hs); (try have hz0 : W.heap.size < w'.heap.size := by omega); (try have hz1 : W.heap.size + 1 < w'.heap.size := by omega); (try have hz2 : W.heap.size + 1 + 1 < w'.heap.size := by omega); obtain ⟨hc, hf⟩ := bcell hb; clear hb) | (go_at_call 28; (with_reducible refine (rround_any _ _ _ _ _ (by assumption) (by assumption) (by assumption)).mono ?_); rintro e w' ⟨rfl, hb⟩; have hB := below_step (w0 := W) (by (repeat' (first | exact Below.refl _ _ | assumption | (refine below_alloc ?_ _) | (refine Below.setCell ?_ ?_ _) | (refine Below.drew ?_) | (refine below_drewN ?_ _))) <;> (first | (simp; done) | (simp; omega) | omega)) hb; have hs := hb.size; (try simp at hs); (try have hz0 : W.heap.size < w'.heap.size := by omega); (try have hz1 : W.heap.size + 1 < w'.heap.size := by omega); (try have hz2 : W.heap.size + 1 + 1 < w'.heap.size := by omega); obtain ⟨hc, hf⟩ := bcell hb; clear hb) | (go_at_call 27; (with_reducible refine (rmay_any _ _ _ _ _).mono ?_); rintro e w' ⟨rfl, hb⟩; have hB := below_step (w0 := W) (by (repeat' (first | exact Below.refl _ _ | assumption | (refine below_alloc ?_ _) | (refine Below.setCell ?_ ?_ _) | (refine Below.drew ?_) | (refine below_drewN ?_ _))) <;> (first | (simp; done) | (simp; omega) | omega)) hb; have hs := hb.size; (try simp at hs); (try have hz0 : W.heap.size < w'.heap.size := by omega); (try have hz1 : W.heap.size + 1 < w'.heap.size := by omega); (try have hz2 : W.heap.size + 1 + 1 < w'.heap.size := by omega); obtain ⟨hc, hf⟩ := bcell hb; clear hb) | (go_at_call 22; (with_reducible refine (num_any _ _).mono ?_); rintro e w' ⟨rfl, rfl⟩) | (go_at_call 19; (with_reducible refine (known_any _ (hT.below (by (repeat' (first | exact Below.refl _ _ | assumption | (refine below_alloc ?_ _) | (refine Below.setCell ?_ ?_ _) | (refine Below.drew ?_) | (refine below_drewN ?_ _))) <;> (first | (simp; done) | (simp; omega) | omega)))).mono ?_); rintro e w' ⟨rfl, hb⟩; have hB := below_step (w0 := W) (by (repeat' (first | exact Below.refl _ _ | assumption | (refine below_alloc ?_ _) | (refine Below.setCell ?_ ?_ _) | (refine Below.drew ?_) | (refine below_drewN ?_ _))) <;> (first | (simp; done) | (simp; omega) | omega)) hb; clear hb))
    go_ret
    exact ⟨rfl, by assumption⟩
  · go_enter Tryd.func6, Tryd.ntmps6
    go_wp2_with (first | (go_at_call 24; (with_reducible refine (round_bad _ _ _ _ _ (by assumption) (by assumption)).mono ?_); rintro e w' ⟨rfl, hb⟩; have hB := below_step (w0 := W) (by (repeat' (first | exact Below.refl _ _ | assumption | (refine below_alloc ?_ _) | (refine Below.setCell ?_ ?_ _) | (refine Below.drew ?_) | (refine below_drewN ?_ _))) <;> (first | (simp; done) | (simp; omega) | omega)) hb; have hs := hb.size; (try simp at hs); (try have hz0 : W.heap.size < w'.heap.size := by omega); (try have hz1 : W.heap.size + 1 < w'.heap.size := by omega); (try have hz2 : W.heap.size + 1 + 1 < w'.heap.size := by omega); obtain ⟨hc, hf⟩ := bcell hb; clear hb) | (go_at_call 27; (with_reducible refine (rmay_any _ _ _ _ _).mono ?_); rintro e w' ⟨rfl, hb⟩; have hB := below_step (w0 := W) (by (repeat' (first | exact Below.refl _ _ | assumption | (refine below_alloc ?_ _) | (refine Below.setCell ?_ ?_ _) | (refine Below.drew ?_) | (refine below_drewN ?_ _))) <;> (first | (simp; done) | (simp; omega) | omega)) hb; have hs := hb.size; (try simp at hs); (try have hz0 : W.heap.size < w'.heap.size := by omega); (try have hz1 : W.heap.size + 1 < w'.heap.size := by omega); (try have hz2 : W.heap.size + 1 + 1 < w'.heap.size := by omega); obtain ⟨hc, hf⟩ := bcell hb; clear hb) | (go_at_call 22; (with_reducible refine (num_any _ _).mono ?_); rintro e w' ⟨rfl, rfl⟩) | (go_at_call 19; (with_reducible refine (known_any _ (hT.below (by (repeat' (first | exact Below.refl _ _ | assumption | (refine below_alloc ?_ _) | (refine Below.setCell ?_ ?_ _) | (refine Below.drew ?_) | (refine below_drewN ?_ _))) <;> (first | (simp; done) | (simp; omega) | omega)))).mono ?_); rintro e w' ⟨rfl, hb⟩; have hB := below_step (w0 := W) (by (repeat' (first | exact Below.refl _ _ | assumption | (refine below_alloc ?_ _) | (refine Below.setCell ?_ ?_ _) | (refine Below.drew ?_) | (refine below_drewN ?_ _))) <;> (first | (simp; done) | (simp; omega) | omega)) hb; clear hb))
    go_ret
    exact ⟨rfl, by assumption⟩

set_option maxHeartbeats 1000000 in
theorem w_BitsScale (W : World) (hT : Tab W) (x : Int) (h0 : 0 ≤ x) (h1 : x < 18446744073709551616) (k : Int) (_e0 : -9223372036854775808 ≤ k) (_e1 : k < 9223372036854775808) : Holds Tryd.prog 7 #[.int .u64 x, .int .i64 k] W := by
  unfold Holds
  obtain ⟨r, hr⟩ : ∃ r, scaleI x k = r := ⟨_, rfl⟩
  have hrr := beq_rfl' r
  go_enter Tryd.func7, Tryd.ntmps7
  go_wp2_with (first | (go_at_call 29; (with_reducible refine (scale_any _ _ _ (by assumption) (by assumption)).mono ?_); rintro e w' ⟨rfl, hb⟩; have hB := below_step (w0 := W) (by (repeat' (first | exact Below.refl _ _ | assumption | (refine below_alloc ?_ _) | (refine Below.setCell ?_ ?_ _) | (refine Below.drew ?_) | (refine below_drewN ?_ _))) <;> (first | (simp; done) | (simp; omega) | omega)) hb; clear hb) | (go_at_call 30; (with_reducible refine (rscale_any _ _ _ (by assumption) (by assumption)).mono ?_); rintro e w' ⟨rfl, hb⟩; have hB := below_step (w0 := W) (by (repeat' (first | exact Below.refl _ _ | assumption | (refine below_alloc ?_ _) | (refine Below.setCell ?_ ?_ _) | (refine Below.drew ?_) | (refine below_drewN ?_ _))) <;> (first | (simp; done) | (simp; omega) | omega)) hb; clear hb) | (go_at_call 19; (with_reducible refine (known_any _ (hT.below (by (repeat' (first | exact Below.refl _ _ | assumption | (refine below_alloc ?_ _) | (refine Below.setCell ?_ ?_ _) | (refine Below.drew ?_) | (refine below_drewN ?_ _))) <;> (first | (simp; done) | (simp; omega) | omega)))).mono ?_); rintro e w' ⟨rfl, hb⟩; have hB := below_step (w0 := W) (by (repeat' (first | exact Below.refl _ _ | assumption | (refine below_alloc ?_ _) | (refine Below.setCell ?_ ?_ _) | (refine Below.drew ?_) | (refine below_drewN ?_ _))) <;> (first | (simp; done) | (simp; omega) | omega)) hb; clear hb))
  go_ret
  exact ⟨rfl, by assumption⟩

set_option maxHeartbeats 2000000 in
theorem w_BitsCompare (W : World) (hT : Tab W) (x : Int) (h0 : 0 ≤ x) (h1 : x < 18446744073709551616) (y : Int) (k0 : 0 ≤ y) (k1 : y < 18446744073709551616) : Holds Tryd.prog 8 #[.int .u64 x, .int .u64 y] W := by
  unfold Holds
  by_cases hx : classI x = 5
  · have hxb : (classI x == 5) = true := by simpa using hx
    have c1 : compI x y = 0 := by unfold compI; rw [if_pos (.inl hx)]
    have c2 : stepsI x y = 0 := by unfold stepsI; rw [if_pos (.inl hx)]
    have c3 : compE x y = 2 := by unfold compE; rw [if_pos (.inl hx)]
    clear hx
    go_enter Tryd.func8, Tryd.ntmps8
    go_wp2_with (first | (go_at_call 31; (with_reducible refine (compare_any _ _ _ (by assumption) (by assumption) (by assumption) (by assumption)).mono ?_); rintro e w' ⟨rfl, hb⟩; have hB := below_step (w0 := W) (by (repeat' (first | exact Below.refl _ _ | assumption | (refine below_alloc ?_ _) | (refine Below.setCell ?_ ?_ _) | (refine Below.drew ?_) | (refine below_drewN ?_ _))) <;> (first | (simp; done) | (simp; omega) | omega)) hb; clear hb) | (go_at_call 32; (with_reducible refine (steps_any _ _ _ (by assumption) (by assumption) (by assumption) (by assumption)).mono ?_); rintro e w' ⟨rfl, hb⟩; have hB := below_step (w0 := W) (by (repeat' (first | exact Below.refl _ _ | assumption | (refine below_alloc ?_ _) | (refine Below.setCell ?_ ?_ _) | (refine Below.drew ?_) | (refine below_drewN ?_ _))) <;> (first | (simp; done) | (simp; omega) | omega)) hb; clear hb) | (go_at_call 15; (with_reducible refine (rclass_any _ _ (by assumption) (by assumption)).mono ?_); rintro e w' ⟨rfl, rfl⟩) | (go_at_call 22; (with_reducible refine (num_any _ _).mono ?_); rintro e w' ⟨rfl, rfl⟩) | (go_at_call 19; (with_reducible refine (known_any _ (hT.below (by (repeat' (first | exact Below.refl _ _ | assumption | (refine below_alloc ?_ _) | (refine Below.setCell ?_ ?_ _) | (refine Below.drew ?_) | (refine below_drewN ?_ _))) <;> (first | (simp; done) | (simp; omega) | omega)))).mono ?_); rintro e w' ⟨rfl, hb⟩; have hB := below_step (w0 := W) (by (repeat' (first | exact Below.refl _ _ | assumption | (refine below_alloc ?_ _) | (refine Below.setCell ?_ ?_ _) | (refine Below.drew ?_) | (refine below_drewN ?_ _))) <;> (first | (simp; done) | (simp; omega) | omega)) hb; clear hb))
    go_ret
    exact ⟨rfl, by assumption⟩
  · have hxb : (classI x == 5) = false := by simpa using hx
    by_cases hy : classI y = 5
    · have hyb : (classI y == 5) = true := by simpa using hy
      have c1 : compI x y = 0 := by unfold compI; rw [if_pos (.inr hy)]
      have c2 : stepsI x y = 0 := by unfold stepsI; rw [if_pos (.inr hy)]
      have c3 : compE x y = 2 := by unfold compE; rw [if_pos (.inr hy)]
      clear hx hy
      go_enter Tryd.func8, Tryd.ntmps8
      go_wp2_with (first | (go_at_call 31; (with_reducible refine (compare_any _ _ _ (by assumption) (by assumption) (by assumption) (by assumption)).mono ?_); rintro e w' ⟨rfl, hb⟩; have hB := below_step (w0 := W) (by (repeat' (first | exact Below.refl _ _ | assumption | (refine below_alloc ?_ _) | (refine Below.setCell ?_ ?_ _) | (refine Below.drew ?_) | (refine below_drewN ?_ _))) <;> (first | (simp; done) | (simp; omega) | omega)) hb; clear hb) | (go_at_call 32; (with_reducible refine (steps_any _ _ _ (by assumption) (by assumption) (by assumption) (by assumption)).mono ?_); rintro e w' ⟨rfl, hb⟩; have hB := below_step (w0 := W) (by (repeat' (first | exact Below.refl _ _ | assumption | (refine below_alloc ?_ _) | (refine Below.setCell ?_ ?_ _) | (refine Below.drew ?_) | (refine below_drewN ?_ _))) <;> (first | (simp; done) | (simp; omega) | omega)) hb; clear hb) | (go_at_call 15; (with_reducible refine (rclass_any _ _ (by assumption) (by assumption)).mono ?_); rintro e w' ⟨rfl, rfl⟩) | (go_at_call 22; (with_reducible refine (num_any _ _).mono ?_); rintro e w' ⟨rfl, rfl⟩) | (go_at_call 19; (with_reducible refine (known_any _ (hT.below (by (repeat' (first | exact Below.refl _ _ | assumption | (refine below_alloc ?_ _) | (refine Below.setCell ?_ ?_ _) | (refine Below.drew ?_) | (refine below_drewN ?_ _))) <;> (first | (simp; done) | (simp; omega) | omega)))).mono ?_); rintro e w' ⟨rfl, hb⟩; have hB := below_step (w0 := W) (by (repeat' (first | exact Below.refl _ _ | assumption | (refine below_alloc ?_ _) | (refine Below.setCell ?_ ?_ _) | (refine Below.drew ?_) | (refine below_drewN ?_ _))) <;> (first | (simp; done) | (simp; omega) | omega)) hb; clear hb))
      go_ret
      exact ⟨rfl, by assumption⟩
    · have hyb : (classI y == 5) = false := by simpa using hy
      have c3 : compE x y = 0 := by unfold compE; rw [if_neg (by simp [hx, hy])]
      obtain ⟨r, hr⟩ : ∃ r, compI x y = r := ⟨_, rfl⟩
      obtain ⟨t, ht⟩ : ∃ t, stepsI x y = t := ⟨_, rfl⟩
      have hrr := beq_rfl' r
      have htt := beq_rfl' t
      have HX := Lib.hid hx
      have HY := Lib.hid hy
      clear hx hy
      go_enter Tryd.func8, Tryd.ntmps8
      go_wp2_with (first | (go_at_call 31; (with_reducible refine (compare_any _ _ _ (by assumption) (by assumption) (by assumption) (by assumption)).mono ?_); rintro e w' ⟨rfl, hb⟩; have hB := below_step (w0 := W) (by (repeat' (first | exact Below.refl _ _ | assumption | (refine below_alloc ?_ _) | (refine Below.setCell ?_ ?_ _) | (refine Below.drew ?_) | (refine below_drewN ?_ _))) <;> (first | (simp; done) | (simp; omega) | omega)) hb; clear hb) | (go_at_call 32; (with_reducible refine (steps_any _ _ _ (by assumption) (by assumption) (by assumption) (by assumption)).mono ?_); rintro e w' ⟨rfl, hb⟩; have hB := below_step (w0 := W) (by (repeat' (first | exact Below.refl _ _ | assumption | (refine below_alloc ?_ _) | (refine Below.setCell ?_ ?_ _) | (refine Below.drew ?_) | (refine below_drewN ?_ _))) <;> (first | (simp; done) | (simp; omega) | omega)) hb; clear hb) | (go_at_call 15; (with_reducible refine (rclass_any _ _ (by assumption) (by assumption)).mono ?_); rintro e w' ⟨rfl, rfl⟩) | (go_at_call 33; (with_reducible refine (rcompare_any _ _ _ (by assumption) (by assumption) (by assumption) (by assumption) HX.out HY.out).mono ?_); rintro e w' ⟨rfl, rfl⟩) | (go_at_call 34; (with_reducible refine (rsteps_any _ _ _ (by assumption) (by assumption) (by assumption) (by assumption) HX.out HY.out).mono ?_); rintro e w' ⟨rfl, rfl⟩) | (go_at_call 22; (with_reducible refine (num_any _ _).mono ?_); rintro e w' ⟨rfl, rfl⟩) | (go_at_call 19; (with_reducible refine (known_any _ (hT.below (by (repeat' (first | exact Below.refl _ _ | assumption | (refine below_alloc ?_ _) | (refine Below.setCell ?_ ?_ _) | (refine Below.drew ?_) | (refine below_drewN ?_ _))) <;> (first | (simp; done) | (simp; omega) | omega)))).mono ?_); rintro e w' ⟨rfl, hb⟩; have hB := below_step (w0 := W) (by (repeat' (first | exact Below.refl _ _ | assumption | (refine below_alloc ?_ _) | (refine Below.setCell ?_ ?_ _) | (refine Below.drew ?_) | (refine below_drewN ?_ _))) <;> (first | (simp; done) | (simp; omega) | omega)) hb; clear hb))
      go_ret
      exact ⟨rfl, by assumption⟩

set_option maxHeartbeats 2000000 in
theorem w_BitsLog (W : World) (hT : Tab W) (x : Int) (h0 : 0 ≤ x) (h1 : x < 18446744073709551616) : Holds Tryd.prog 9 #[.int .u64 x] W := by
  unfold Holds
  obtain ⟨l, hl⟩ : ∃ l, pExp x + lenI (pMan x) - 1 = l := ⟨_, rfl⟩
  have hll := beq_rfl' l
  by_cases hc3 : classI x ≤ 3
  · have hcb : decide (classI x ≤ 3) = true := by simpa using hc3
    by_cases hz : classI x = 1
    · have hzb : (classI x == 1) = true := by simpa using hz
      have hm : pMan x = 0 := by
        unfold pMan; rw [if_neg (by omega), if_pos (by omega)]
        unfold classI at hz; (repeat' split at hz) <;> omega
      have hlo : logOK x = false := by unfold logOK; rw [hm]; simp
      clear hz hc3 hm
      go_enter Tryd.func9, Tryd.ntmps9
      go_wp2_with (first | (go_at_call 35; (with_reducible refine (log_any _ _ (by assumption) (by assumption)).mono ?_); rintro e w' ⟨rfl, hb⟩; have hB := below_step (w0 := W) (by (repeat' (first | exact Below.refl _ _ | assumption | (refine below_alloc ?_ _) | (refine Below.setCell ?_ ?_ _) | (refine Below.drew ?_) | (refine below_drewN ?_ _))) <;> (first | (simp; done) | (simp; omega) | omega)) hb; clear hb) | (go_at_call 21; (with_reducible refine (rfinite_any _ _ (by assumption) (by assumption)).mono ?_); rintro e w' ⟨rfl, rfl⟩) | (go_at_call 15; (with_reducible refine (rclass_any _ _ (by assumption) (by assumption)).mono ?_); rintro e w' ⟨rfl, rfl⟩) | (go_at_call 22; (with_reducible refine (num_any _ _).mono ?_); rintro e w' ⟨rfl, rfl⟩) | (go_at_call 19; (with_reducible refine (known_any _ (hT.below (by (repeat' (first | exact Below.refl _ _ | assumption | (refine below_alloc ?_ _) | (refine Below.setCell ?_ ?_ _) | (refine Below.drew ?_) | (refine below_drewN ?_ _))) <;> (first | (simp; done) | (simp; omega) | omega)))).mono ?_); rintro e w' ⟨rfl, hb⟩; have hB := below_step (w0 := W) (by (repeat' (first | exact Below.refl _ _ | assumption | (refine below_alloc ?_ _) | (refine Below.setCell ?_ ?_ _) | (refine Below.drew ?_) | (refine below_drewN ?_ _))) <;> (first | (simp; done) | (simp; omega) | omega)) hb; clear hb))
      go_ret
      exact ⟨rfl, by assumption⟩
    · have hzb : (classI x == 1) = false := by simpa using hz
      have hm : pMan x ≠ 0 := by
        have hcs : classI x = 2 ∨ classI x = 3 := by have := classI_cases x; omega
        unfold pMan
        rcases hcs with hk | hk
        · rw [if_neg (by omega), if_pos (by omega)]
          unfold classI at hk; (repeat' split at hk) <;> omega
        · rw [if_pos hk]; omega
      have hlo : logOK x = true := by unfold logOK; rw [(pErr_class x).2 hc3]; simpa using hm
      have HM := Lib.hid hm
      clear hz hm
      go_enter Tryd.func9, Tryd.ntmps9
      go_wp2_with (first | (go_at_call 35; (with_reducible refine (log_any _ _ (by assumption) (by assumption)).mono ?_); rintro e w' ⟨rfl, hb⟩; have hB := below_step (w0 := W) (by (repeat' (first | exact Below.refl _ _ | assumption | (refine below_alloc ?_ _) | (refine Below.setCell ?_ ?_ _) | (refine Below.drew ?_) | (refine below_drewN ?_ _))) <;> (first | (simp; done) | (simp; omega) | omega)) hb; clear hb) | (go_at_call 21; (with_reducible refine (rfinite_any _ _ (by assumption) (by assumption)).mono ?_); rintro e w' ⟨rfl, rfl⟩) | (go_at_call 15; (with_reducible refine (rclass_any _ _ (by assumption) (by assumption)).mono ?_); rintro e w' ⟨rfl, rfl⟩) | (go_at_call 36; (with_reducible refine (rlog_any _ _ (by assumption) (by assumption) (by assumption) HM.out).mono ?_); rintro e w' ⟨rfl, hb⟩; have hB := below_step (w0 := W) (by (repeat' (first | exact Below.refl _ _ | assumption | (refine below_alloc ?_ _) | (refine Below.setCell ?_ ?_ _) | (refine Below.drew ?_) | (refine below_drewN ?_ _))) <;> (first | (simp; done) | (simp; omega) | omega)) hb; clear hb) | (go_at_call 22; (with_reducible refine (num_any _ _).mono ?_); rintro e w' ⟨rfl, rfl⟩) | (go_at_call 19; (with_reducible refine (known_any _ (hT.below (by (repeat' (first | exact Below.refl _ _ | assumption | (refine below_alloc ?_ _) | (refine Below.setCell ?_ ?_ _) | (refine Below.drew ?_) | (refine below_drewN ?_ _))) <;> (first | (simp; done) | (simp; omega) | omega)))).mono ?_); rintro e w' ⟨rfl, hb⟩; have hB := below_step (w0 := W) (by (repeat' (first | exact Below.refl _ _ | assumption | (refine below_alloc ?_ _) | (refine Below.setCell ?_ ?_ _) | (refine Below.drew ?_) | (refine below_drewN ?_ _))) <;> (first | (simp; done) | (simp; omega) | omega)) hb; clear hb))
      go_ret
      exact ⟨rfl, by assumption⟩
  · have hcb : decide (classI x ≤ 3) = false := by simpa using hc3
    have hlo : logOK x = false := by
      unfold logOK
      have : ¬ pErr x = 0 := by rw [pErr_class]; exact hc3
      simp [this]
    clear hc3
    go_enter Tryd.func9, Tryd.ntmps9
    go_wp2_with (first | (go_at_call 35; (with_reducible refine (log_any _ _ (by assumption) (by assumption)).mono ?_); rintro e w' ⟨rfl, hb⟩; have hB := below_step (w0 := W) (by (repeat' (first | exact Below.refl _ _ | assumption | (refine below_alloc ?_ _) | (refine Below.setCell ?_ ?_ _) | (refine Below.drew ?_) | (refine below_drewN ?_ _))) <;> (first | (simp; done) | (simp; omega) | omega)) hb; clear hb) | (go_at_call 21; (with_reducible refine (rfinite_any _ _ (by assumption) (by assumption)).mono ?_); rintro e w' ⟨rfl, rfl⟩) | (go_at_call 22; (with_reducible refine (num_any _ _).mono ?_); rintro e w' ⟨rfl, rfl⟩) | (go_at_call 19; (with_reducible refine (known_any _ (hT.below (by (repeat' (first | exact Below.refl _ _ | assumption | (refine below_alloc ?_ _) | (refine Below.setCell ?_ ?_ _) | (refine Below.drew ?_) | (refine below_drewN ?_ _))) <;> (first | (simp; done) | (simp; omega) | omega)))).mono ?_); rintro e w' ⟨rfl, hb⟩; have hB := below_step (w0 := W) (by (repeat' (first | exact Below.refl _ _ | assumption | (refine below_alloc ?_ _) | (refine Below.setCell ?_ ?_ _) | (refine Below.drew ?_) | (refine below_drewN ?_ _))) <;> (first | (simp; done) | (simp; omega) | omega)) hb; clear hb))
    go_ret
    exact ⟨rfl, by assumption⟩

end Go.Proofs.YtaeognfpmhfmgaaDoor
