/-
  The reference's far and level: two dyads at one place.
-/
import Derived.Test.YtjlaadadbpffdaaGreatDoorDyO
import Derived.Test.YtjlaadadbpffdaaGreatDoorDyG
import Derived.Deep.RegionHeld3
import Derived.Deep.RegionWith
import Derived.Deep.Cut
set_option linter.unusedSimpArgs false
set_option linter.unusedVariables false
namespace Go.Proofs.YtjlaadadbpffdaaGreatDoor
open Go.RowKit Go.Plumb
section
variable {w : World} {a b : Option Addr} {n c m d : Nat} {l k : List Nat}
set_option maxHeartbeats 2000000 in
theorem rfar3_any (xs ys : Bool) (xe ye : Int) (xm ym : Nat) (h1 : Num w a n c (limbs xm)) (h2 : Num w b m d (limbs ym)) (b0 : -1000000000 ≤ xe) (b1 : xe ≤ 1000000000) (b2 : -1000000000 ≤ ye) (b3 : ye ≤ 1000000000) :
    Calls Tryz.prog 111 #[.agg #[.bool xs, .slice a n c, .int .i64 xe], .agg #[.bool ys, .slice b m d, .int .i64 ye]] w fun x w' => x = .returned (.bool (decide (farD ⟨xs, xm, xe⟩ ⟨ys, ym, ye⟩))) ∧ Below w.heap.size w w' := by
  obtain ⟨r, hr⟩ : ∃ r, decide (farD ⟨xs, xm, xe⟩ ⟨ys, ym, ye⟩) = r := ⟨_, rfl⟩
  rw [hr]
  have hcase : (n = 0 ∧ r = false) ∨ (0 < n ∧ m = 0 ∧ r = false) ∨ (0 < n ∧ 0 < m ∧ (262144 : Int) < xe - ye ∧ r = true) ∨ (0 < n ∧ 0 < m ∧ ¬ (262144 : Int) < xe - ye ∧ (262144 : Int) < ye - xe ∧ r = true) ∨ (0 < n ∧ 0 < m ∧ ¬ (262144 : Int) < xe - ye ∧ ¬ (262144 : Int) < ye - xe ∧ r = false) := by
    by_cases hx : xm = 0
    · left; exact ⟨by rw [h1.1]; exact limbs_nil.2 hx, by rw [← hr]; exact decide_eq_false (fun h => h.1 hx)⟩
    · right
      have hn : n ≠ 0 := fun h => hx (limbs_nil.1 (by rw [← h1.1]; exact h))
      have d1 : 0 < n := by omega
      by_cases hy : ym = 0
      · left; exact ⟨d1, by rw [h2.1]; exact limbs_nil.2 hy, by rw [← hr]; exact decide_eq_false (fun h => h.2.1 hy)⟩
      · right
        have hm : m ≠ 0 := fun h => hy (limbs_nil.1 (by rw [← h2.1]; exact h))
        have d2 : 0 < m := by omega
        have hiff : farD ⟨xs, xm, xe⟩ ⟨ys, ym, ye⟩ ↔ (xm ≠ 0 ∧ ym ≠ 0 ∧ 262144 < max xe ye - min xe ye) := Iff.rfl
        by_cases hd : (262144 : Int) < xe - ye
        · left; exact ⟨d1, d2, hd, by rw [← hr]; exact decide_eq_true (hiff.2 ⟨hx, hy, by omega⟩)⟩
        · right
          by_cases hd' : (262144 : Int) < ye - xe
          · left; exact ⟨d1, d2, hd, hd', by rw [← hr]; exact decide_eq_true (hiff.2 ⟨hx, hy, by omega⟩)⟩
          · right; exact ⟨d1, d2, hd, hd', by rw [← hr]; exact decide_eq_false (fun h => by have := (hiff.1 h).2.2; omega)⟩
  clear h1 h2 hr
  rcases hcase with ⟨rfl, rfl⟩ | ⟨d1, rfl, rfl⟩ | ⟨d1, d2, d3, rfl⟩ | ⟨d1, d2, d3, d4, rfl⟩ | ⟨d1, d2, d3, d4, rfl⟩
  all_goals go_enter Tryz.func111, Tryz.ntmps111
  all_goals go_wp2_with fail
  all_goals go_ret
  all_goals exact ⟨rfl, by (repeat' (first | exact Below.refl _ _ | assumption | (refine below_alloc ?_ _) | (refine Below.setCell ?_ ?_ _) | (refine Below.drew ?_) | (refine below_drewN ?_ _))) <;> (first | (simp; done) | (simp; omega) | omega)⟩

set_option maxHeartbeats 4000000 in
theorem rlevel3_any (xs ys : Bool) (xe ye E : Int) (xm ym p q X Y : Nat) (h1 : Num w a n c (limbs xm)) (h2 : Num w b m d (limbs ym)) (hl : (limbs xm).length ≤ 4000) (hl' : (limbs ym).length ≤ 4000) (hzx : xm = 0 → xe = 0) (hzy : ym = 0 → ye = 0)
    (hE : lowE ⟨xs, xm, xe⟩ ⟨ys, ym, ye⟩ = E) (hf : ¬ farD ⟨xs, xm, xe⟩ ⟨ys, ym, ye⟩) (hp : (xe - E).toNat = p) (hq : (ye - E).toNat = q) (hX : xm * 2 ^ p = X) (hY : ym * 2 ^ q = Y)
    (b0 : -262144 ≤ xe) (b1 : xe ≤ 600000) (b2 : -262144 ≤ ye) (b3 : ye ≤ 600000) :
    Calls Tryz.prog 112 #[.agg #[.bool xs, .slice a n c, .int .i64 xe], .agg #[.bool ys, .slice b m d, .int .i64 ye]] w fun x w' => ∃ a' n' c' b' m' d', x = .returned (.tuple #[.slice a' n' c', .slice b' m' d', .int .i64 E]) ∧ Num w' a' n' c' (limbs X) ∧ Num w' b' m' d' (limbs Y) ∧ Below w.heap.size w w' := by
  obtain ⟨MN, hmn⟩ : ∃ z, min xe ye = z := ⟨_, rfl⟩
  have hcase : (n = 0 ∧ m ≠ 0 ∧ E = ye) ∨ (n = 0 ∧ m = 0 ∧ xe = ye ∧ E = xe) ∨ (n ≠ 0 ∧ m = 0 ∧ E = xe) ∨ (n ≠ 0 ∧ m ≠ 0 ∧ E = MN ∧ xe - MN ≤ 262144 ∧ ye - MN ≤ 262144) := by
    unfold lowE at hE
    unfold farD at hf
    simp only at hE hf
    by_cases hx : xm = 0
    · rw [if_pos hx] at hE
      have hn : n = 0 := by rw [h1.1]; exact limbs_nil.2 hx
      by_cases hy : ym = 0
      · right; left; exact ⟨hn, by rw [h2.1]; exact limbs_nil.2 hy, by rw [hzx hx, hzy hy], by rw [← hE, hzx hx, hzy hy]⟩
      · left; exact ⟨hn, fun h => hy (limbs_nil.1 (by rw [← h2.1]; exact h)), hE.symm⟩
    · rw [if_neg hx] at hE
      have hn : n ≠ 0 := fun h => hx (limbs_nil.1 (by rw [← h1.1]; exact h))
      right; right
      by_cases hy : ym = 0
      · rw [if_pos hy] at hE
        left; exact ⟨hn, by rw [h2.1]; exact limbs_nil.2 hy, hE.symm⟩
      · rw [if_neg hy] at hE
        right
        have : ¬ 262144 < max xe ye - min xe ye := fun h => hf ⟨hx, hy, h⟩
        exact ⟨hn, fun h => hy (limbs_nil.1 (by rw [← h2.1]; exact h)), by rw [← hE, ← hmn], by omega, by omega⟩
  have hz0 : n = 0 → xe = 0 := fun h => hzx (limbs_nil.1 (by rw [← h1.1]; exact h))
  have hz1 : m = 0 → ye = 0 := fun h => hzy (limbs_nil.1 (by rw [← h2.1]; exact h))
  have hpE : xe - E ≤ 300000 ∧ ye - E ≤ 300000 := by
    rcases hcase with ⟨g1, g2, g3⟩ | ⟨g1, g2, g0, g3⟩ | ⟨g1, g2, g3⟩ | ⟨g1, g2, g3, g4, g5⟩
    · have := hz0 g1; omega
    · have := hz0 g1; have := hz1 g2; omega
    · have := hz1 g2; omega
    · omega
  have X0 := (Boxed3.new w xs a n c xe 24 rfl).alloc (.cells #[.bool ys, .slice b m d, .int .i64 ye] 24)
  have Y0 := Boxed3.new (w.alloc (.cells #[.bool xs, .slice a n c, .int .i64 xe] 24)) ys b m d ye 24 (g := w.heap.size + 1) (by simp)
  clear hzx hzy hz0 hz1 hE hf
  by_cases hx : E < xe
  · by_cases hy : E < ye
    · exfalso
      rcases hcase with ⟨g1, g2, g3⟩ | ⟨g1, g2, g0, g3⟩ | ⟨g1, g2, g3⟩ | ⟨g1, g2, g3, g4, g5⟩ <;> omega
    · have hS := fun w' (hb : Below w.heap.size w w') => rshl_n X p (h1.below hb) (by rw [valL_limbs]; exact hX) hl (by omega)
      have hpi : (p : Int) = xe - E := by omega
      rw [hpi] at hS
      obtain rfl : q = 0 := by omega
      rw [Nat.pow_zero, Nat.mul_one] at hY
      subst hY
      have dx := decide_eq_true hx
      have dy := decide_eq_false hy
      have HN := Lib.hid h2
      clear h1 h2 hl hl' hp hq hX hpi hpE X0
      rcases hcase with ⟨rfl, g2, rfl⟩ | ⟨g1, g2, g0, g3⟩ | ⟨g1, g2, g3⟩ | ⟨g1, g2, rfl, g4, g5⟩
      rotate_left
      · exfalso; omega
      · exfalso; omega
      rotate_left
      all_goals clear hx hy
      all_goals go_enter Tryz.func112, Tryz.ntmps112
      all_goals go_wp2_with fail
      all_goals go_region
      all_goals go_wp2_with fail
      all_goals refine (hS _ (by (repeat' (first | exact Below.refl _ _ | assumption | (refine below_alloc ?_ _) | (refine Below.setCell ?_ ?_ _) | (refine Below.drew ?_) | (refine below_drewN ?_ _))) <;> (first | (simp; done) | (simp; omega) | omega))).mono ?_
      all_goals rintro x w1 ⟨a1, n1, c1, rfl, N1, hb⟩
      all_goals have Y1 := Boxed3.below (b := w.heap.size + 1) (by first | assumption | exact Boxed3.drew (by assumption)) hb
      all_goals have HB1 := below_step (w0 := w) (by (repeat' (first | exact Below.refl _ _ | assumption | (refine below_alloc ?_ _) | (refine Below.setCell ?_ ?_ _) | (refine Below.drew ?_) | (refine below_drewN ?_ _))) <;> (first | (simp; done) | (simp; omega) | omega)) hb
      all_goals obtain ⟨y0, y1, y2, _, _, _⟩ := id Y1
      all_goals clear hb Y0
      all_goals go_wp2_with fail
      all_goals exact bodyPost_ret (v := .tuple #[.slice a1 n1 c1, .slice b m d, .int .i64 E]) (by simp [results, Tryz.results112, go_sem]) rfl ⟨a1, n1, c1, b, m, d, rfl, N1, HN.out.below (by (repeat' (first | exact Below.refl _ _ | assumption | (refine below_alloc ?_ _) | (refine Below.setCell ?_ ?_ _) | (refine Below.drew ?_) | (refine below_drewN ?_ _))) <;> (first | (simp; done) | (simp; omega) | omega)), by (repeat' (first | exact Below.refl _ _ | assumption | (refine below_alloc ?_ _) | (refine Below.setCell ?_ ?_ _) | (refine Below.drew ?_) | (refine below_drewN ?_ _))) <;> (first | (simp; done) | (simp; omega) | omega)⟩
  · by_cases hy : E < ye
    · have hS := fun w' (hb : Below w.heap.size w w') => rshl_n Y q (h2.below hb) (by rw [valL_limbs]; exact hY) hl' (by omega)
      have hpi : (q : Int) = ye - E := by omega
      rw [hpi] at hS
      obtain rfl : p = 0 := by omega
      rw [Nat.pow_zero, Nat.mul_one] at hX
      subst hX
      have dx := decide_eq_false hx
      have dy := decide_eq_true hy
      have HN := Lib.hid h1
      clear h1 h2 hl hl' hp hq hY hpi hpE
      rcases hcase with ⟨g1, g2, g3⟩ | ⟨g1, g2, g0, g3⟩ | ⟨g1, rfl, rfl⟩ | ⟨g1, g2, rfl, g4, g5⟩
      · exfalso; omega
      · exfalso; omega
      all_goals clear hx hy
      all_goals go_enter Tryz.func112, Tryz.ntmps112
      all_goals go_wp2_with fail
      all_goals go_region
      all_goals go_wp2_with fail
      all_goals refine (hS _ (by (repeat' (first | exact Below.refl _ _ | assumption | (refine below_alloc ?_ _) | (refine Below.setCell ?_ ?_ _) | (refine Below.drew ?_) | (refine below_drewN ?_ _))) <;> (first | (simp; done) | (simp; omega) | omega))).mono ?_
      all_goals rintro x w1 ⟨a1, n1, c1, rfl, N1, hb⟩
      all_goals have HB1 := below_step (w0 := w) (by (repeat' (first | exact Below.refl _ _ | assumption | (refine below_alloc ?_ _) | (refine Below.setCell ?_ ?_ _) | (refine Below.drew ?_) | (refine below_drewN ?_ _))) <;> (first | (simp; done) | (simp; omega) | omega)) hb
      all_goals clear hb Y0 X0
      all_goals go_wp2_with fail
      · exact bodyPost_ret (v := .tuple #[.slice a n c, .slice a1 n1 c1, .int .i64 E]) (by simp [results, Tryz.results112, go_sem]) rfl ⟨a, n, c, a1, n1, c1, rfl, HN.out.below (by (repeat' (first | exact Below.refl _ _ | assumption | (refine below_alloc ?_ _) | (refine Below.setCell ?_ ?_ _) | (refine Below.drew ?_) | (refine below_drewN ?_ _))) <;> (first | (simp; done) | (simp; omega) | omega)), N1, by (repeat' (first | exact Below.refl _ _ | assumption | (refine below_alloc ?_ _) | (refine Below.setCell ?_ ?_ _) | (refine Below.drew ?_) | (refine below_drewN ?_ _))) <;> (first | (simp; done) | (simp; omega) | omega)⟩
      · exact bodyPost_ret (v := .tuple #[.slice a n c, .slice a1 n1 c1, .int .i64 E]) (by simp [results, Tryz.results112, go_sem]) rfl ⟨a, n, c, a1, n1, c1, rfl, HN.out.below (by (repeat' (first | exact Below.refl _ _ | assumption | (refine below_alloc ?_ _) | (refine Below.setCell ?_ ?_ _) | (refine Below.drew ?_) | (refine below_drewN ?_ _))) <;> (first | (simp; done) | (simp; omega) | omega)), N1, by (repeat' (first | exact Below.refl _ _ | assumption | (refine below_alloc ?_ _) | (refine Below.setCell ?_ ?_ _) | (refine Below.drew ?_) | (refine below_drewN ?_ _))) <;> (first | (simp; done) | (simp; omega) | omega)⟩
    · obtain rfl : q = 0 := by omega
      obtain rfl : p = 0 := by omega
      rw [Nat.pow_zero, Nat.mul_one] at hX hY
      subst hX
      subst hY
      have dx := decide_eq_false hx
      have dy := decide_eq_false hy
      have HN := Lib.hid (And.intro h1 h2)
      clear h1 h2 hl hl' hp hq hpE
      rcases hcase with ⟨rfl, g2, rfl⟩ | ⟨rfl, rfl, rfl, rfl⟩ | ⟨g1, rfl, rfl⟩ | ⟨g1, g2, rfl, g4, g5⟩
      all_goals clear hx hy X0 Y0
      all_goals go_enter Tryz.func112, Tryz.ntmps112
      all_goals go_wp2_with fail
      all_goals go_region
      all_goals go_wp2_with fail
      · exact bodyPost_ret (v := .tuple #[.slice a 0 c, .slice b m d, .int .i64 E]) (by simp [results, Tryz.results112, go_sem]) rfl ⟨a, 0, c, b, m, d, rfl, HN.out.1.below (by (repeat' (first | exact Below.refl _ _ | assumption | (refine below_alloc ?_ _) | (refine Below.setCell ?_ ?_ _) | (refine Below.drew ?_) | (refine below_drewN ?_ _))) <;> (first | (simp; done) | (simp; omega) | omega)), HN.out.2.below (by (repeat' (first | exact Below.refl _ _ | assumption | (refine below_alloc ?_ _) | (refine Below.setCell ?_ ?_ _) | (refine Below.drew ?_) | (refine below_drewN ?_ _))) <;> (first | (simp; done) | (simp; omega) | omega)), by (repeat' (first | exact Below.refl _ _ | assumption | (refine below_alloc ?_ _) | (refine Below.setCell ?_ ?_ _) | (refine Below.drew ?_) | (refine below_drewN ?_ _))) <;> (first | (simp; done) | (simp; omega) | omega)⟩
      · exact bodyPost_ret (v := .tuple #[.slice a 0 c, .slice b 0 d, .int .i64 E]) (by simp [results, Tryz.results112, go_sem]) rfl ⟨a, 0, c, b, 0, d, rfl, HN.out.1.below (by (repeat' (first | exact Below.refl _ _ | assumption | (refine below_alloc ?_ _) | (refine Below.setCell ?_ ?_ _) | (refine Below.drew ?_) | (refine below_drewN ?_ _))) <;> (first | (simp; done) | (simp; omega) | omega)), HN.out.2.below (by (repeat' (first | exact Below.refl _ _ | assumption | (refine below_alloc ?_ _) | (refine Below.setCell ?_ ?_ _) | (refine Below.drew ?_) | (refine below_drewN ?_ _))) <;> (first | (simp; done) | (simp; omega) | omega)), by (repeat' (first | exact Below.refl _ _ | assumption | (refine below_alloc ?_ _) | (refine Below.setCell ?_ ?_ _) | (refine Below.drew ?_) | (refine below_drewN ?_ _))) <;> (first | (simp; done) | (simp; omega) | omega)⟩
      · exact bodyPost_ret (v := .tuple #[.slice a n c, .slice b 0 d, .int .i64 E]) (by simp [results, Tryz.results112, go_sem]) rfl ⟨a, n, c, b, 0, d, rfl, HN.out.1.below (by (repeat' (first | exact Below.refl _ _ | assumption | (refine below_alloc ?_ _) | (refine Below.setCell ?_ ?_ _) | (refine Below.drew ?_) | (refine below_drewN ?_ _))) <;> (first | (simp; done) | (simp; omega) | omega)), HN.out.2.below (by (repeat' (first | exact Below.refl _ _ | assumption | (refine below_alloc ?_ _) | (refine Below.setCell ?_ ?_ _) | (refine Below.drew ?_) | (refine below_drewN ?_ _))) <;> (first | (simp; done) | (simp; omega) | omega)), by (repeat' (first | exact Below.refl _ _ | assumption | (refine below_alloc ?_ _) | (refine Below.setCell ?_ ?_ _) | (refine Below.drew ?_) | (refine below_drewN ?_ _))) <;> (first | (simp; done) | (simp; omega) | omega)⟩
      · exact bodyPost_ret (v := .tuple #[.slice a n c, .slice b m d, .int .i64 E]) (by simp [results, Tryz.results112, go_sem]) rfl ⟨a, n, c, b, m, d, rfl, HN.out.1.below (by (repeat' (first | exact Below.refl _ _ | assumption | (refine below_alloc ?_ _) | (refine Below.setCell ?_ ?_ _) | (refine Below.drew ?_) | (refine below_drewN ?_ _))) <;> (first | (simp; done) | (simp; omega) | omega)), HN.out.2.below (by (repeat' (first | exact Below.refl _ _ | assumption | (refine below_alloc ?_ _) | (refine Below.setCell ?_ ?_ _) | (refine Below.drew ?_) | (refine below_drewN ?_ _))) <;> (first | (simp; done) | (simp; omega) | omega)), by (repeat' (first | exact Below.refl _ _ | assumption | (refine below_alloc ?_ _) | (refine Below.setCell ?_ ?_ _) | (refine Below.drew ?_) | (refine below_drewN ?_ _))) <;> (first | (simp; done) | (simp; omega) | omega)⟩
end
end Go.Proofs.YtjlaadadbpffdaaGreatDoor
