/-
  DyR, DyS, DyV: as one text.
-/
import Derived.Test.YtjlaadadbpffdaaGreatDoorDyO
import Derived.Test.YtjlaadadbpffdaaGreatDoorDyG
import Derived.Deep.RegionHeld3
import Derived.Deep.RegionWith
import Derived.Deep.Cut
import Derived.Test.YtjlaadadbpffdaaGreatDoorDyT
set_option linter.unusedSimpArgs false
set_option linter.unusedVariables false
namespace Go.Proofs.YtjlaadadbpffdaaGreatDoor
open Go.RowKit Go.Plumb
section
variable {w : World} {a b : Option Addr} {n c m d : Nat} {l k : List Nat}
set_option maxHeartbeats 2000000 in
theorem rfar3_any (xs ys : Bool) (xe ye : Int) (xm ym : Nat) (h1 : Num w a n c (limbs xm)) (h2 : Num w b m d (limbs ym)) (b0 : -1000000000 ≤ xe) (b1 : xe ≤ 1000000000) (b2 : -1000000000 ≤ ye) (b3 : ye ≤ 1000000000) :
    Calls Tryz.prog 111 #[.agg #[.bool xs, .slice a n c, .int .i64 xe], .agg #[.bool ys, .slice b m d, .int .i64 ye]] w fun x w' => x = .returned (.bool (decide (farD ⟨xs, xm, xe⟩ ⟨ys, ym, ye⟩))) ∧ Below w.heap.size w w' := by
  obtain ⟨r, hr⟩ : ∃ r, decide (farD ⟨xs, xm, xe⟩ ⟨ys, ym, ye⟩) = r := ⟨_, rfl⟩
  rw [hr]
  have hcase : (n = 0 ∧ r = false) ∨ (0 < n ∧ m = 0 ∧ r = false) ∨ (0 < n ∧ 0 < m ∧ (262144 : Int) < xe - ye ∧ r = true) ∨ (0 < n ∧ 0 < m ∧ ¬ (262144 : Int) < xe - ye ∧ (262144 : Int) < ye - xe ∧ r = true) ∨ (0 < n ∧ 0 < m ∧ ¬ (262144 : Int) < xe - ye ∧ ¬ (262144 : Int) < ye - xe ∧ r = false) := by
    by_cases hx : xm = 0
    · left; exact ⟨by rw [h1.1]; exact limbs_nil.2 hx, by rw [← hr]; exact decide_eq_false (fun h => h.1 hx)⟩
    · right
      have hn : n ≠ 0 := fun h => hx (limbs_nil.1 (by rw [← h1.1]; exact h))
      have d1 : 0 < n := by omega
      by_cases hy : ym = 0
      · left; exact ⟨d1, by rw [h2.1]; exact limbs_nil.2 hy, by rw [← hr]; exact decide_eq_false (fun h => h.2.1 hy)⟩
      · right
        have hm : m ≠ 0 := fun h => hy (limbs_nil.1 (by rw [← h2.1]; exact h))
        have d2 : 0 < m := by omega
        have hiff : farD ⟨xs, xm, xe⟩ ⟨ys, ym, ye⟩ ↔ (xm ≠ 0 ∧ ym ≠ 0 ∧ 262144 < max xe ye - min xe ye) := Iff.rfl
        by_cases hd : (262144 : Int) < xe - ye
        · left; exact ⟨d1, d2, hd, by rw [← hr]; exact decide_eq_true (hiff.2 ⟨hx, hy, by omega⟩)⟩
        · right
          by_cases hd' : (262144 : Int) < ye - xe
          · left; exact ⟨d1, d2, hd, hd', by rw [← hr]; exact decide_eq_true (hiff.2 ⟨hx, hy, by omega⟩)⟩
          · right; exact ⟨d1, d2, hd, hd', by rw [← hr]; exact decide_eq_false (fun h => by have := (hiff.1 h).2.2; omega)⟩
  clear h1 h2 hr
  rcases hcase with ⟨rfl, rfl⟩ | ⟨d1, rfl, rfl⟩ | ⟨d1, d2, d3, rfl⟩ | ⟨d1, d2, d3, d4, rfl⟩ | ⟨d1, d2, d3, d4, rfl⟩
  all_goals go_enter Tryz.func111, Tryz.ntmps111
  all_goals go_wp2_with fail
  all_goals go_ret
  all_goals exact ⟨rfl, by (repeat' (first | exact Below.refl _ _ | assumption | (refine below_alloc ?_ _) | (refine Below.setCell ?_ ?_ _) | (refine Below.drew ?_) | (refine below_drewN ?_ _))) <;> (first | (simp; done) | (simp; omega) | omega)⟩

set_option maxHeartbeats 4000000 in
theorem rlevel3_any (xs ys : Bool) (xe ye E : Int) (xm ym p q X Y : Nat) (h1 : Num w a n c (limbs xm)) (h2 : Num w b m d (limbs ym)) (hl : (limbs xm).length ≤ 4000) (hl' : (limbs ym).length ≤ 4000) (hzx : xm = 0 → xe = 0) (hzy : ym = 0 → ye = 0)
    (hE : lowE ⟨xs, xm, xe⟩ ⟨ys, ym, ye⟩ = E) (hf : ¬ farD ⟨xs, xm, xe⟩ ⟨ys, ym, ye⟩) (hp : (xe - E).toNat = p) (hq : (ye - E).toNat = q) (hX : xm * 2 ^ p = X) (hY : ym * 2 ^ q = Y)
    (b0 : -262144 ≤ xe) (b1 : xe ≤ 600000) (b2 : -262144 ≤ ye) (b3 : ye ≤ 600000) :
    Calls Tryz.prog 112 #[.agg #[.bool xs, .slice a n c, .int .i64 xe], .agg #[.bool ys, .slice b m d, .int .i64 ye]] w fun x w' => ∃ a' n' c' b' m' d', x = .returned (.tuple #[.slice a' n' c', .slice b' m' d', .int .i64 E]) ∧ Num w' a' n' c' (limbs X) ∧ Num w' b' m' d' (limbs Y) ∧ Below w.heap.size w w' := by
  obtain ⟨MN, hmn⟩ : ∃ z, min xe ye = z := ⟨_, rfl⟩
  have hcase : (n = 0 ∧ m ≠ 0 ∧ E = ye) ∨ (n = 0 ∧ m = 0 ∧ xe = ye ∧ E = xe) ∨ (n ≠ 0 ∧ m = 0 ∧ E = xe) ∨ (n ≠ 0 ∧ m ≠ 0 ∧ E = MN ∧ xe - MN ≤ 262144 ∧ ye - MN ≤ 262144) := by
    unfold lowE at hE
    unfold farD at hf
    simp only at hE hf
    by_cases hx : xm = 0
    · rw [if_pos hx] at hE
      have hn : n = 0 := by rw [h1.1]; exact limbs_nil.2 hx
      by_cases hy : ym = 0
      · right; left; exact ⟨hn, by rw [h2.1]; exact limbs_nil.2 hy, by rw [hzx hx, hzy hy], by rw [← hE, hzx hx, hzy hy]⟩
      · left; exact ⟨hn, fun h => hy (limbs_nil.1 (by rw [← h2.1]; exact h)), hE.symm⟩
    · rw [if_neg hx] at hE
      have hn : n ≠ 0 := fun h => hx (limbs_nil.1 (by rw [← h1.1]; exact h))
      right; right
      by_cases hy : ym = 0
      · rw [if_pos hy] at hE
        left; exact ⟨hn, by rw [h2.1]; exact limbs_nil.2 hy, hE.symm⟩
      · rw [if_neg hy] at hE
        right
        have : ¬ 262144 < max xe ye - min xe ye := fun h => hf ⟨hx, hy, h⟩
        exact ⟨hn, fun h => hy (limbs_nil.1 (by rw [← h2.1]; exact h)), by rw [← hE, ← hmn], by omega, by omega⟩
  have hz0 : n = 0 → xe = 0 := fun h => hzx (limbs_nil.1 (by rw [← h1.1]; exact h))
  have hz1 : m = 0 → ye = 0 := fun h => hzy (limbs_nil.1 (by rw [← h2.1]; exact h))
  have hpE : xe - E ≤ 300000 ∧ ye - E ≤ 300000 := by
    rcases hcase with ⟨g1, g2, g3⟩ | ⟨g1, g2, g0, g3⟩ | ⟨g1, g2, g3⟩ | ⟨g1, g2, g3, g4, g5⟩
    · have := hz0 g1; omega
    · have := hz0 g1; have := hz1 g2; omega
    · have := hz1 g2; omega
    · omega
  have X0 := (Boxed3.new w xs a n c xe 24 rfl).alloc (.cells #[.bool ys, .slice b m d, .int .i64 ye] 24)
  have Y0 := Boxed3.new (w.alloc (.cells #[.bool xs, .slice a n c, .int .i64 xe] 24)) ys b m d ye 24 (g := w.heap.size + 1) (by simp)
  clear hzx hzy hz0 hz1 hE hf
  by_cases hx : E < xe
  · by_cases hy : E < ye
    · exfalso
      rcases hcase with ⟨g1, g2, g3⟩ | ⟨g1, g2, g0, g3⟩ | ⟨g1, g2, g3⟩ | ⟨g1, g2, g3, g4, g5⟩ <;> omega
    · have hS := fun w' (hb : Below w.heap.size w w') => rshl_n X p (h1.below hb) (by rw [valL_limbs]; exact hX) hl (by omega)
      have hpi : (p : Int) = xe - E := by omega
      rw [hpi] at hS
      obtain rfl : q = 0 := by omega
      rw [Nat.pow_zero, Nat.mul_one] at hY
      subst hY
      have dx := decide_eq_true hx
      have dy := decide_eq_false hy
      have HN := Lib.hid h2
      clear h1 h2 hl hl' hp hq hX hpi hpE X0
      rcases hcase with ⟨rfl, g2, rfl⟩ | ⟨g1, g2, g0, g3⟩ | ⟨g1, g2, g3⟩ | ⟨g1, g2, rfl, g4, g5⟩
      rotate_left
      · exfalso; omega
      · exfalso; omega
      rotate_left
      all_goals clear hx hy
      all_goals go_enter Tryz.func112, Tryz.ntmps112
      all_goals go_wp2_with fail
      all_goals go_region
      all_goals go_wp2_with fail
      all_goals refine (hS _ (by (repeat' (first | exact Below.refl _ _ | assumption | (refine below_alloc ?_ _) | (refine Below.setCell ?_ ?_ _) | (refine Below.drew ?_) | (refine below_drewN ?_ _))) <;> (first | (simp; done) | (simp; omega) | omega))).mono ?_
      all_goals rintro x w1 ⟨a1, n1, c1, rfl, N1, hb⟩
      all_goals have Y1 := Boxed3.below (b := w.heap.size + 1) (by first | assumption | exact Boxed3.drew (by assumption)) hb
      all_goals have HB1 := below_step (w0 := w) (by (repeat' (first | exact Below.refl _ _ | assumption | (refine below_alloc ?_ _) | (refine Below.setCell ?_ ?_ _) | (refine Below.drew ?_) | (refine below_drewN ?_ _))) <;> (first | (simp; done) | (simp; omega) | omega)) hb
      all_goals obtain ⟨y0, y1, y2, _, _, _⟩ := id Y1
      all_goals clear hb Y0
      all_goals go_wp2_with fail
      all_goals exact bodyPost_ret (v := .tuple #[.slice a1 n1 c1, .slice b m d, .int .i64 E]) (by simp [results, Tryz.results112, go_sem]) rfl ⟨a1, n1, c1, b, m, d, rfl, N1, HN.out.below (by (repeat' (first | exact Below.refl _ _ | assumption | (refine below_alloc ?_ _) | (refine Below.setCell ?_ ?_ _) | (refine Below.drew ?_) | (refine below_drewN ?_ _))) <;> (first | (simp; done) | (simp; omega) | omega)), by (repeat' (first | exact Below.refl _ _ | assumption | (refine below_alloc ?_ _) | (refine Below.setCell ?_ ?_ _) | (refine Below.drew ?_) | (refine below_drewN ?_ _))) <;> (first | (simp; done) | (simp; omega) | omega)⟩
  · by_cases hy : E < ye
    · have hS := fun w' (hb : Below w.heap.size w w') => rshl_n Y q (h2.below hb) (by rw [valL_limbs]; exact hY) hl' (by omega)
      have hpi : (q : Int) = ye - E := by omega
      rw [hpi] at hS
      obtain rfl : p = 0 := by omega
      rw [Nat.pow_zero, Nat.mul_one] at hX
      subst hX
      have dx := decide_eq_false hx
      have dy := decide_eq_true hy
      have HN := Lib.hid h1
      clear h1 h2 hl hl' hp hq hY hpi hpE
      rcases hcase with ⟨g1, g2, g3⟩ | ⟨g1, g2, g0, g3⟩ | ⟨g1, rfl, rfl⟩ | ⟨g1, g2, rfl, g4, g5⟩
      · exfalso; omega
      · exfalso; omega
      all_goals clear hx hy
      all_goals go_enter Tryz.func112, Tryz.ntmps112
      all_goals go_wp2_with fail
      all_goals go_region
      all_goals go_wp2_with fail
      all_goals refine (hS _ (by (repeat' (first | exact Below.refl _ _ | assumption | (refine below_alloc ?_ _) | (refine Below.setCell ?_ ?_ _) | (refine Below.drew ?_) | (refine below_drewN ?_ _))) <;> (first | (simp; done) | (simp; omega) | omega))).mono ?_
      all_goals rintro x w1 ⟨a1, n1, c1, rfl, N1, hb⟩
      all_goals have HB1 := below_step (w0 := w) (by (repeat' (first | exact Below.refl _ _ | assumption | (refine below_alloc ?_ _) | (refine Below.setCell ?_ ?_ _) | (refine Below.drew ?_) | (refine below_drewN ?_ _))) <;> (first | (simp; done) | (simp; omega) | omega)) hb
      all_goals clear hb Y0 X0
      all_goals go_wp2_with fail
      · exact bodyPost_ret (v := .tuple #[.slice a n c, .slice a1 n1 c1, .int .i64 E]) (by simp [results, Tryz.results112, go_sem]) rfl ⟨a, n, c, a1, n1, c1, rfl, HN.out.below (by (repeat' (first | exact Below.refl _ _ | assumption | (refine below_alloc ?_ _) | (refine Below.setCell ?_ ?_ _) | (refine Below.drew ?_) | (refine below_drewN ?_ _))) <;> (first | (simp; done) | (simp; omega) | omega)), N1, by (repeat' (first | exact Below.refl _ _ | assumption | (refine below_alloc ?_ _) | (refine Below.setCell ?_ ?_ _) | (refine Below.drew ?_) | (refine below_drewN ?_ _))) <;> (first | (simp; done) | (simp; omega) | omega)⟩
      · exact bodyPost_ret (v := .tuple #[.slice a n c, .slice a1 n1 c1, .int .i64 E]) (by simp [results, Tryz.results112, go_sem]) rfl ⟨a, n, c, a1, n1, c1, rfl, HN.out.below (by (repeat' (first | exact Below.refl _ _ | assumption | (refine below_alloc ?_ _) | (refine Below.setCell ?_ ?_ _) | (refine Below.drew ?_) | (refine below_drewN ?_ _))) <;> (first | (simp; done) | (simp; omega) | omega)), N1, by (repeat' (first | exact Below.refl _ _ | assumption | (refine below_alloc ?_ _) | (refine Below.setCell ?_ ?_ _) | (refine Below.drew ?_) | (refine below_drewN ?_ _))) <;> (first | (simp; done) | (simp; omega) | omega)⟩
    · obtain rfl : q = 0 := by omega
      obtain rfl : p = 0 := by omega
      rw [Nat.pow_zero, Nat.mul_one] at hX hY
      subst hX
      subst hY
      have dx := decide_eq_false hx
      have dy := decide_eq_false hy
      have HN := Lib.hid (And.intro h1 h2)
      clear h1 h2 hl hl' hp hq hpE
      rcases hcase with ⟨rfl, g2, rfl⟩ | ⟨rfl, rfl, rfl, rfl⟩ | ⟨g1, rfl, rfl⟩ | ⟨g1, g2, rfl, g4, g5⟩
      all_goals clear hx hy X0 Y0
      all_goals go_enter Tryz.func112, Tryz.ntmps112
      all_goals go_wp2_with fail
      all_goals go_region
      all_goals go_wp2_with fail
      · exact bodyPost_ret (v := .tuple #[.slice a 0 c, .slice b m d, .int .i64 E]) (by simp [results, Tryz.results112, go_sem]) rfl ⟨a, 0, c, b, m, d, rfl, HN.out.1.below (by (repeat' (first | exact Below.refl _ _ | assumption | (refine below_alloc ?_ _) | (refine Below.setCell ?_ ?_ _) | (refine Below.drew ?_) | (refine below_drewN ?_ _))) <;> (first | (simp; done) | (simp; omega) | omega)), HN.out.2.below (by (repeat' (first | exact Below.refl _ _ | assumption | (refine below_alloc ?_ _) | (refine Below.setCell ?_ ?_ _) | (refine Below.drew ?_) | (refine below_drewN ?_ _))) <;> (first | (simp; done) | (simp; omega) | omega)), by (repeat' (first | exact Below.refl _ _ | assumption | (refine below_alloc ?_ _) | (refine Below.setCell ?_ ?_ _) | (refine Below.drew ?_) | (refine below_drewN ?_ _))) <;> (first | (simp; done) | (simp; omega) | omega)⟩
      · exact bodyPost_ret (v := .tuple #[.slice a 0 c, .slice b 0 d, .int .i64 E]) (by simp [results, Tryz.results112, go_sem]) rfl ⟨a, 0, c, b, 0, d, rfl, HN.out.1.below (by (repeat' (first | exact Below.refl _ _ | assumption | (refine below_alloc ?_ _) | (refine Below.setCell ?_ ?_ _) | (refine Below.drew ?_) | (refine below_drewN ?_ _))) <;> (first | (simp; done) | (simp; omega) | omega)), HN.out.2.below (by (repeat' (first | exact Below.refl _ _ | assumption | (refine below_alloc ?_ _) | (refine Below.setCell ?_ ?_ _) | (refine Below.drew ?_) | (refine below_drewN ?_ _))) <;> (first | (simp; done) | (simp; omega) | omega)), by (repeat' (first | exact Below.refl _ _ | assumption | (refine below_alloc ?_ _) | (refine Below.setCell ?_ ?_ _) | (refine Below.drew ?_) | (refine below_drewN ?_ _))) <;> (first | (simp; done) | (simp; omega) | omega)⟩
      · exact bodyPost_ret (v := .tuple #[.slice a n c, .slice b 0 d, .int .i64 E]) (by simp [results, Tryz.results112, go_sem]) rfl ⟨a, n, c, b, 0, d, rfl, HN.out.1.below (by (repeat' (first | exact Below.refl _ _ | assumption | (refine below_alloc ?_ _) | (refine Below.setCell ?_ ?_ _) | (refine Below.drew ?_) | (refine below_drewN ?_ _))) <;> (first | (simp; done) | (simp; omega) | omega)), HN.out.2.below (by (repeat' (first | exact Below.refl _ _ | assumption | (refine below_alloc ?_ _) | (refine Below.setCell ?_ ?_ _) | (refine Below.drew ?_) | (refine below_drewN ?_ _))) <;> (first | (simp; done) | (simp; omega) | omega)), by (repeat' (first | exact Below.refl _ _ | assumption | (refine below_alloc ?_ _) | (refine Below.setCell ?_ ?_ _) | (refine Below.drew ?_) | (refine below_drewN ?_ _))) <;> (first | (simp; done) | (simp; omega) | omega)⟩
      · exact bodyPost_ret (v := .tuple #[.slice a n c, .slice b m d, .int .i64 E]) (by simp [results, Tryz.results112, go_sem]) rfl ⟨a, n, c, b, m, d, rfl, HN.out.1.below (by (repeat' (first | exact Below.refl _ _ | assumption | (refine below_alloc ?_ _) | (refine Below.setCell ?_ ?_ _) | (refine Below.drew ?_) | (refine below_drewN ?_ _))) <;> (first | (simp; done) | (simp; omega) | omega)), HN.out.2.below (by (repeat' (first | exact Below.refl _ _ | assumption | (refine below_alloc ?_ _) | (refine Below.setCell ?_ ?_ _) | (refine Below.drew ?_) | (refine below_drewN ?_ _))) <;> (first | (simp; done) | (simp; omega) | omega)), by (repeat' (first | exact Below.refl _ _ | assumption | (refine below_alloc ?_ _) | (refine Below.setCell ?_ ?_ _) | (refine Below.drew ?_) | (refine below_drewN ?_ _))) <;> (first | (simp; done) | (simp; omega) | omega)⟩
end
end Go.Proofs.YtjlaadadbpffdaaGreatDoor

namespace Go.Plumb
theorem nrm_zero_e (d : Dy) (h : (nrm d).m = 0) : (nrm d).e = 0 := by
  by_cases h0 : d.m = 0
  · rw [nrm_zero h0]; rfl
  · rw [nrm_m] at h; exact absurd h (oddN_ne h0)
end Go.Plumb
namespace Go.Proofs.YtjlaadadbpffdaaGreatDoor
open Go.RowKit Go.Plumb
section
variable {w : World} {a b : Option Addr} {n c m d : Nat} {l k : List Nat}
set_option maxHeartbeats 8000000 in
set_option maxRecDepth 20000 in
theorem rAdd3_ok (s s' : Bool) (e e' : Int) (R : Dy) (r : Int) (h1 : Num w a n c l) (h2 : Num w b m d k) (hl : l.length + k.length ≤ 1000) (hm : mayE e) (hm' : mayE e') (hnear : farD (nrm ⟨s, valL l, e⟩) (nrm ⟨s', valL k, e'⟩) ∨ nearD (nrm ⟨s, valL l, e⟩) (nrm ⟨s', valL k, e'⟩)) (hO : addO ⟨s, valL l, e⟩ ⟨s', valL k, e'⟩ = (R, r)) :
    Calls Tryz.prog 39 #[.agg #[.bool s, .slice a n c, .int .i64 e], .agg #[.bool s', .slice b m d, .int .i64 e']] w fun x w' => ∃ a' n' c', x = .returned (.tuple #[.agg #[.bool R.s, .slice a' n' c', .int .i64 R.e], .int .i64 r]) ∧ Num w' a' n' c' (limbs R.m) ∧ Below w.heap.size w w' := by
  obtain ⟨X0, Y0, R0⟩ := three_boxes w s s' a b n c m d e e' 24
  unfold addO at hO
  rw [if_pos ⟨hm, hm'⟩] at hO
  have hM1 := fun w' (hb : Below w.heap.size w w') => rMay3_any s e (h1.below hb) (by omega)
  have hM2 := fun w' (hb : Below w.heap.size w w') => rMay3_any s' e' (h2.below hb) (by omega)
  simp only [decide_eq_true hm] at hM1
  simp only [decide_eq_true hm'] at hM2
  have hN1 := fun w' (hb : Below w.heap.size w w') => rNorm3_any s e (h1.below hb) (by omega) (by have := hm.1; omega) (by have := hm.2; omega)
  have hN2 := fun w' (hb : Below w.heap.size w w') => rNorm3_any s' e' (h2.below hb) (by omega) (by have := hm'.1; omega) (by have := hm'.2; omega)
  have hb0 := nrm_e_may (s := s) h1.limbs (by omega) hm
  have hb0' := nrm_e_may (s := s') h2.limbs (by omega) hm'
  have hb1 := nrm_len (s := s) (e := e) h1.limbs
  have hb1' := nrm_len (s := s') (e := e') h2.limbs
  have hzx := nrm_zero_e ⟨s, valL l, e⟩
  have hzy := nrm_zero_e ⟨s', valL k, e'⟩
  obtain ⟨X, hX⟩ : ∃ X, nrm ⟨s, valL l, e⟩ = X := ⟨_, rfl⟩
  obtain ⟨Y, hY⟩ : ∃ Y, nrm ⟨s', valL k, e'⟩ = Y := ⟨_, rfl⟩
  simp only [hX] at hN1 hb0 hb1 hO hnear hzx
  simp only [hY] at hN2 hb0' hb1' hO hnear hzy
  obtain ⟨xs, xm, xe⟩ := X
  obtain ⟨ys, ym, ye⟩ := Y
  simp only at hN1 hN2 hb0 hb0' hb1 hb1' hzx hzy
  have hl1 : (limbs xm).length ≤ 1000 := by omega
  have hl2 : (limbs ym).length ≤ 1000 := by omega
  have HH := Lib.hid (And.intro hO (And.intro hnear (And.intro hzx (And.intro hzy (And.intro hb0 (And.intro hb0' (And.intro hl1 hl2)))))))
  clear hX hY hO hm hm' h1 h2 hb1 hb1' hl hnear hzx hzy hb0 hb0' hl1 hl2
  go_enter Tryz.func39, Tryz.ntmps39
  go_wp2_with fail
  refine (hM1 _ (by repeat' (first | exact Below.refl _ _ | refine below_alloc ?_ _))).mono ?_
  rintro x w1 ⟨rfl, hb⟩
  have X1 := X0.below hb
  have Y1 := Y0.below hb
  have R1 := R0.below hb
  have HB1 := below_step (w0 := w) (by (repeat' (first | exact Below.refl _ _ | assumption | (refine below_alloc ?_ _) | (refine Below.setCell ?_ ?_ _) | (refine Below.drew ?_) | (refine below_drewN ?_ _))) <;> (first | (simp; done) | (simp; omega) | omega)) hb
  clear hb X0 Y0 R0 hM1
  obtain ⟨x0, x1, x2, _, _, _⟩ := id X1
  obtain ⟨y0, y1, y2, _, _, _⟩ := id Y1
  go_wp2_with fail
  refine (hM2 _ HB1).mono ?_
  rintro x w2 ⟨rfl, hb⟩
  have X2 := X1.below hb
  have Y2 := Y1.below hb
  have R2 := R1.below hb
  have HB2 := below_step HB1 hb
  clear hb X1 Y1 R1 hM2 HB1 x0 x1 x2 y0 y1 y2
  obtain ⟨x0, x1, x2, f0, f1, f2⟩ := id X2
  obtain ⟨y0, y1, y2, g0, g1, g2⟩ := id Y2
  go_wp2_with fail
  go_cut [] from 9 (fun wx => ∃ p1 q1 r1 p2 q2 r2, Boxed3 wx w.heap.size xs p1 q1 r1 xe ∧ Boxed3 wx (w.heap.size + 1) ys p2 q2 r2 ye ∧ Boxed3 wx (w.heap.size + 1 + 1) false none 0 0 0 ∧ Num wx p1 q1 r1 (limbs xm) ∧ Num wx p2 q2 r2 (limbs ym) ∧ Below w.heap.size w wx)
  case first =>
    go_region_with ((first | (go_at_call 82; (with_reducible refine (hN1 _ (by first | assumption | exact Below.drew (by assumption) | ((repeat' (first | exact Below.refl _ _ | assumption | (refine below_alloc ?_ _) | (refine Below.setCell ?_ ?_ _) | (refine Below.drew ?_) | (refine below_drewN ?_ _))) <;> (first | (simp; done) | (simp; omega) | omega)))).mono ?_); rintro e v1 ⟨p1, q1, r1, rfl, M1, hb⟩; have U1 := Boxed3.below (b := w.heap.size) (by first | assumption | exact Boxed3.drew (by assumption)) hb; have V1 := Boxed3.below (b := w.heap.size + 1) (by first | assumption | exact Boxed3.drew (by assumption)) hb; have T1 := Boxed3.below (b := w.heap.size + 1 + 1) (by first | assumption | exact Boxed3.drew (by assumption)) hb; have HC1 := below_step (w0 := w) (by first | assumption | exact Below.drew (by assumption) | ((repeat' (first | exact Below.refl _ _ | assumption | (refine below_alloc ?_ _) | (refine Below.setCell ?_ ?_ _) | (refine Below.drew ?_) | (refine below_drewN ?_ _))) <;> (first | (simp; done) | (simp; omega) | omega))) hb; obtain ⟨x0, x1, x2, f0, f1, f2⟩ := id U1; obtain ⟨y0, y1, y2, h0, h1, h2⟩ := id V1; clear hb) | (go_at_call 82; (with_reducible refine (hN2 _ (by first | assumption | exact Below.drew (by assumption) | ((repeat' (first | exact Below.refl _ _ | assumption | (refine below_alloc ?_ _) | (refine Below.setCell ?_ ?_ _) | (refine Below.drew ?_) | (refine below_drewN ?_ _))) <;> (first | (simp; done) | (simp; omega) | omega)))).mono ?_); rintro e v2 ⟨p2, q2, r2, rfl, M2, hb⟩; have U2 := Boxed3.below (b := w.heap.size) (by first | assumption | exact Boxed3.drew (by assumption)) hb; have V2 := Boxed3.below (b := w.heap.size + 1) (by first | assumption | exact Boxed3.drew (by assumption)) hb; have T2 := Boxed3.below (b := w.heap.size + 1 + 1) (by first | assumption | exact Boxed3.drew (by assumption)) hb; have HC2 := below_step (w0 := w) (by first | assumption | exact Below.drew (by assumption) | ((repeat' (first | exact Below.refl _ _ | assumption | (refine below_alloc ?_ _) | (refine Below.setCell ?_ ?_ _) | (refine Below.drew ?_) | (refine below_drewN ?_ _))) <;> (first | (simp; done) | (simp; omega) | omega))) hb; have M3 := Num.below M1 hb; obtain ⟨x0, x1, x2, f0, f1, f2⟩ := id U2; obtain ⟨y0, y1, y2, h0, h1, h2⟩ := id V2; clear hb)))
    all_goals obtain ⟨W5, hW5⟩ : ∃ W5, (((((v2.setCell ⟨w.heap.size, 0, none⟩ (.bool xs)).setCell ⟨w.heap.size, 1, none⟩ (.slice p1 q1 r1)).setCell ⟨w.heap.size, 2, none⟩ (.int .i64 xe)).setCell ⟨w.heap.size + 1, 0, none⟩ (.bool ys)).setCell ⟨w.heap.size + 1, 1, none⟩ (.slice p2 q2 r2)).setCell ⟨w.heap.size + 1, 2, none⟩ (.int .i64 ye) = W5 := ⟨_, rfl⟩
    all_goals have V3 := ((V2.other (k := w.heap.size) (by omega) 0 (.bool xs)).other (k := w.heap.size) (by omega) 1 (.slice p1 q1 r1)).other (k := w.heap.size) (by omega) 2 (.int .i64 xe)
    all_goals have U3 := U2.fill xs p1 q1 r1 xe
    all_goals have X5 : Boxed3 W5 w.heap.size xs p1 q1 r1 xe := by rw [← hW5]; exact ((U3.other (by omega) _ _).other (by omega) _ _).other (by omega) _ _
    all_goals have Y5 : Boxed3 W5 (w.heap.size + 1) ys p2 q2 r2 ye := by rw [← hW5]; exact V3.fill ..
    all_goals have R5 : Boxed3 W5 (w.heap.size + 1 + 1) false none 0 0 0 := by rw [← hW5]; exact (((((T2.other (by omega) _ _).other (by omega) _ _).other (by omega) _ _).other (by omega) _ _).other (by omega) _ _).other (by omega) _ _
    all_goals have L1 : Num W5 p1 q1 r1 (limbs xm) := by rw [← hW5]; exact Num.fill V3 (Num.fill U2 M3 ..) ..
    all_goals have L2 : Num W5 p2 q2 r2 (limbs ym) := by rw [← hW5]; exact Num.fill V3 (Num.fill U2 M2 ..) ..
    all_goals have HB5 : Below w.heap.size w W5 := by rw [← hW5]; exact Below.fill3 (Below.fill3 HC2 (Nat.le_refl _) _ _ _) (Nat.le_succ _) _ _ _
    all_goals rw [hW5]
    all_goals clear hW5 U3 V3 U1 V1 T1 HC1 M1 U2 V2 T2 HC2 M2 M3 x0 x1 x2 f0 f1 f2 y0 y1 y2 X2 Y2 R2 HB2 hN1 hN2
    all_goals go_wp2_with fail
    all_goals go_meet
    all_goals exact ⟨p1, q1, r1, p2, q2, r2, X5, Y5, R5, L1, L2, HB5⟩
  case rest =>
    clear x0 x1 x2 f0 f1 f2 y0 y1 y2 g0 g1 g2 X2 Y2 R2 HB2 hN1 hN2
    obtain ⟨p1, q1, r1, p2, q2, r2, X5, Y5, R5, L1, L2, HB5⟩ := hcut
    obtain ⟨hO, hnear, hzx, hzy, hb0, hb0', hl1, hl2⟩ := HH.out
    clear HH
    have L1' := Lib.hid L1
    have L2' := Lib.hid L2
    clear L1 L2
    have hF := fun wx (h : Below wc.heap.size wc wx) => rfar3_any xs ys xe ye xm ym (L1'.out.below h) (L2'.out.below h) (by omega) (by omega) (by omega) (by omega)
    obtain ⟨x0, x1, x2, _, _, _⟩ := id X5
    obtain ⟨y0, y1, y2, _, _, _⟩ := id Y5
    by_cases hf : farD ⟨xs, xm, xe⟩ ⟨ys, ym, ye⟩
    · rw [if_pos hf] at hO
      obtain ⟨rfl, rfl⟩ : zeroD = R ∧ 3 = r := ⟨congrArg Prod.fst hO, congrArg Prod.snd hO⟩
      simp only [decide_eq_true hf] at hF
      clear hO hnear hzx hzy hb0 hb0' hl1 hl2 hf
      go_wp2_with fail
      refine (hF _ (Below.refl _ _)).mono ?_
      rintro x w3 ⟨rfl, hb⟩
      have R6 := R5.below hb
      have HB6 := below_step HB5 hb
      clear hb X5 Y5 R5 HB5 hF x0 x1 x2 y0 y1 y2
      obtain ⟨r0, r1', r2', g0, g1, g2⟩ := id R6
      go_wp2_with fail
      exact bodyPost_ret (v := .tuple #[.agg #[.bool false, .slice none 0 0, .int .i64 0], .int .i64 3]) (by simp [results, Tryz.results39, go_sem, r0, r1', r2', g0, g1, g2]) rfl ⟨none, 0, 0, rfl, (by show Num _ _ _ _ (limbs 0); rw [limbs_zero]; exact Num.nil _), by (repeat' (first | exact Below.refl _ _ | assumption | (refine below_alloc ?_ _) | (refine Below.setCell ?_ ?_ _) | (refine Below.drew ?_) | (refine below_drewN ?_ _))) <;> (first | (simp; done) | (simp; omega) | omega)⟩
    · rw [if_neg hf] at hO
      simp only [decide_eq_false hf] at hF
      have hnr : nearD ⟨xs, xm, xe⟩ ⟨ys, ym, ye⟩ := hnear.resolve_left hf
      obtain ⟨E, hE⟩ : ∃ E, lowE ⟨xs, xm, xe⟩ ⟨ys, ym, ye⟩ = E := ⟨_, rfl⟩
      obtain ⟨p, hp⟩ : ∃ p, (xe - E).toNat = p := ⟨_, rfl⟩
      obtain ⟨q, hq⟩ : ∃ q, (ye - E).toNat = q := ⟨_, rfl⟩
      obtain ⟨X', hX'⟩ : ∃ X', xm * 2 ^ p = X' := ⟨_, rfl⟩
      obtain ⟨Y', hY'⟩ : ∃ Y', ym * 2 ^ q = Y' := ⟨_, rfl⟩
      have hlx := lowE_x ⟨xs, xm, xe⟩ ⟨ys, ym, ye⟩
      have hly := lowE_y ⟨xs, xm, xe⟩ ⟨ys, ym, ye⟩
      rw [hE] at hlx hly
      have b01 : -1000000 ≤ E ∧ E ≤ 1000000 := by rw [← hE]; unfold lowE; (repeat' split) <;> (try simp only) <;> omega
      have b0 : -1000000000 ≤ E := by omega
      have b1 : E ≤ 1000000000 := by omega
      have hlX : (limbs X').length ≤ 1188 := by
        by_cases h0 : xm = 0
        · rw [← hX', h0, Nat.zero_mul, limbs_zero]; simp
        · refine pow_len hX'.symm hl1 ?_
          rcases hnr with h | h | h
          · exact absurd h h0
          · have : E = xe := by rw [← hE]; unfold lowE; rw [if_neg (by exact h0), if_pos h]
            omega
          · by_cases h0' : ym = 0
            · have : E = xe := by rw [← hE]; unfold lowE; rw [if_neg (by exact h0), if_pos (by exact h0')]
              omega
            · have : E = min xe ye := by rw [← hE]; unfold lowE; rw [if_neg (by exact h0), if_neg (by exact h0')]
              simp only at h
              omega
      have hlY : (limbs Y').length ≤ 1188 := by
        by_cases h0 : ym = 0
        · rw [← hY', h0, Nat.zero_mul, limbs_zero]; simp
        · refine pow_len hY'.symm hl2 ?_
          rcases hnr with h | h | h
          · have : E = ye := by rw [← hE]; unfold lowE; rw [if_pos h]
            omega
          · exact absurd h h0
          · by_cases h0' : xm = 0
            · have : E = ye := by rw [← hE]; unfold lowE; rw [if_pos (by exact h0')]
              omega
            · have : E = min xe ye := by rw [← hE]; unfold lowE; rw [if_neg (by exact h0'), if_neg (by exact h0)]
              simp only at h
              omega
      have hadd : addD ⟨xs, xm, xe⟩ ⟨ys, ym, ye⟩ = (if xs = ys then ⟨xs, X' + Y', E⟩ else if X' < Y' then ⟨ys, Y' - X', E⟩ else ⟨xs, X' - Y', E⟩) := by
        unfold addD atE
        simp only [hE, hp, hq, hX', hY']
      rw [hadd] at hO
      have hV := fun wx (h : Below wc.heap.size wc wx) => rlevel3_any xs ys xe ye E xm ym p q X' Y' (L1'.out.below h) (L2'.out.below h) (Nat.le_trans hl1 (by omega)) (Nat.le_trans hl2 (by omega)) hzx hzy hE hf hp hq hX' hY' (by omega) (by omega) (by omega) (by omega)
      clear hnear hzx hzy hf hnr hE hp hq hX' hY' hlx hly hadd b01
      go_wp2_with fail
      refine (hF _ (Below.refl _ _)).mono ?_
      rintro x w3 ⟨rfl, hb⟩
      have X6 := X5.below hb
      have Y6 := Y5.below hb
      have R6 := R5.below hb
      have HB6 := below_step HB5 hb
      have hV1 := hV _ hb
      clear hb X5 Y5 R5 HB5 hF hV x0 x1 x2 y0 y1 y2
      obtain ⟨x0, x1, x2, _, _, _⟩ := id X6
      obtain ⟨y0, y1, y2, _, _, _⟩ := id Y6
      go_wp2_with fail
      refine hV1.mono ?_
      rintro x w4 ⟨a3, n3, c3, a4, n4, c4, rfl, N3, N4, hb⟩
      have X7 := X6.below hb
      have Y7 := Y6.below hb
      have R7 := R6.below hb
      have HB7 := below_step HB6 hb
      have N3' := Lib.hid N3
      have N4' := Lib.hid N4
      clear hb X6 Y6 R6 HB6 hV1 x0 x1 x2 y0 y1 y2 N3 N4
      obtain ⟨x0, x1, x2, _, _, _⟩ := id X7
      obtain ⟨y0, y1, y2, _, _, _⟩ := id Y7
      by_cases hs : xs = ys
      · rw [if_pos hs] at hO
        subst hs
        have hlen : (limbs (X' + Y')).length ≤ 4000 := by
          have := len_add (limbs_limbs X') (limbs_limbs Y')
          rw [valL_limbs, valL_limbs] at this
          omega
        have hD := fun w' a' n' c' (hn : Num w' a' n' c' (limbs (X' + Y'))) => rDone3_any xs E hn hlen (by omega) (by omega)
        simp only [valL_limbs, hO] at hD
        have hA := fun wx (h : Below w4.heap.size w4 wx) => radd_n (X' + Y') (N3'.out.below h) (N4'.out.below h) (by rw [valL_limbs, valL_limbs]) (by omega)
        clear hO
        go_wp2_with fail
        have HK := Below.refl w4.heap.size w4
        go_region_held3 (fun wx => Below w.heap.size w wx ∧ wx.cell? ⟨w.heap.size, 0, none⟩ = some (.bool xs)) (first | (refine ⟨?_, ?_⟩ <;> first | assumption | exact Below.drew (by assumption)) | exact ⟨Below.fill3 HB12 (by omega) _ _ _, (B12.other3 (by omega) _ _ _).c0⟩) ((first | (go_at_call 88; (with_reducible refine (hA _ (by first | assumption | exact Below.drew (by assumption))).mono ?_); rintro e v6 ⟨p6, q6, r6, rfl, M6, hb⟩; have B11 := (X7.drew).below hb; have R11 := (R7.drew).below hb; have HB11 := below_step (w0 := w) (Below.drew HB7) hb; have hD6 := hD _ _ _ _ M6; clear x0 x1 x2 y0 y1 y2; obtain ⟨x0, x1, x2, f0, f1, f2⟩ := id B11; clear hb) | (go_at_call 55; (with_reducible refine hD6.mono ?_); rintro e v7 ⟨p7, q7, r7, rfl, M7, hb⟩; have B12 := B11.below hb; have R12 := R11.below hb; have HB12 := below_step (w0 := w) HB11 hb; clear x0 x1 x2 f0 f1 f2; obtain ⟨x0, x1, x2, f0, f1, f2⟩ := id B12; obtain ⟨r0, r1', r2', g0, g1, g2⟩ := id R12; clear hb)))
        go_wp2_with fail
        exact bodyPost_ret (v := .tuple #[.agg #[.bool R.s, .slice p7 q7 r7, .int .i64 R.e], .int .i64 r]) (by simp [results, Tryz.results39, go_sem, r0, r1', r2', g0, g1, g2]) rfl ⟨p7, q7, r7, rfl, Num.fill R12 M7 .., Below.fill3 HB12 (by omega) _ _ _⟩
      · rw [if_neg hs] at hO
        have hsb : (xs == ys) = false := by cases xs <;> cases ys <;> first | rfl | exact absurd rfl hs
        clear hs
        have hC := fun wx (h : Below w4.heap.size w4 wx) => rcmp_n (N3'.out.below h) (N4'.out.below h) (by omega)
        simp only [valL_limbs] at hC
        by_cases hc : X' < Y'
        · rw [if_pos hc] at hO
          have hlen : (limbs (Y' - X')).length ≤ 4000 := Nat.le_trans (length_mono (Nat.sub_le _ _)) (by omega)
          have hD := fun w' a' n' c' (hn : Num w' a' n' c' (limbs (Y' - X'))) => rDone3_any ys E hn hlen (by omega) (by omega)
          simp only [valL_limbs, hO] at hD
          have hA := fun wx (h : Below w4.heap.size w4 wx) => rsub_n (Y' - X') (N4'.out.below h) (N3'.out.below h) (by rw [valL_limbs, valL_limbs]; omega) (by omega)
          simp only [cmp_lt hc] at hC
          clear hO hc
          go_wp2_with fail
          refine (hC _ (Below.refl _ _)).mono ?_
          rintro x w5 ⟨rfl, hb⟩
          have X8 := X7.below hb
          have Y8 := Y7.below hb
          have R8 := R7.below hb
          have HB8 := below_step HB7 hb
          replace hA := fun wx (h : Below w5.heap.size w5 wx) => hA wx (below_step hb h)
          clear hb X7 Y7 R7 HB7 hC x0 x1 x2 y0 y1 y2
          obtain ⟨x0, x1, x2, _, _, _⟩ := id X8
          obtain ⟨y0, y1, y2, _, _, _⟩ := id Y8
          go_wp2_with fail
          have HK := Below.refl w5.heap.size w5
          go_region_held3 (fun wx => Below w.heap.size w wx ∧ wx.cell? ⟨w.heap.size + 1, 0, none⟩ = some (.bool ys)) (first | (refine ⟨?_, ?_⟩ <;> first | assumption | exact Below.drew (by assumption)) | exact ⟨Below.fill3 HB12 (by omega) _ _ _, (B12.other3 (by omega) _ _ _).c0⟩) ((first | (go_at_call 113; (with_reducible refine (hA _ (by first | assumption | exact Below.drew (by assumption))).mono ?_); rintro e v6 ⟨p6, q6, r6, rfl, M6, hb⟩; have B11 := (Y8.drew).below hb; have R11 := (R8.drew).below hb; have HB11 := below_step (w0 := w) (Below.drew HB8) hb; have hD6 := hD _ _ _ _ M6; clear x0 x1 x2 y0 y1 y2; obtain ⟨x0, x1, x2, f0, f1, f2⟩ := id B11; clear hb) | (go_at_call 55; (with_reducible refine hD6.mono ?_); rintro e v7 ⟨p7, q7, r7, rfl, M7, hb⟩; have B12 := B11.below hb; have R12 := R11.below hb; have HB12 := below_step (w0 := w) HB11 hb; clear x0 x1 x2 f0 f1 f2; obtain ⟨x0, x1, x2, f0, f1, f2⟩ := id B12; obtain ⟨r0, r1', r2', g0, g1, g2⟩ := id R12; clear hb)))
          go_wp2_with fail
          exact bodyPost_ret (v := .tuple #[.agg #[.bool R.s, .slice p7 q7 r7, .int .i64 R.e], .int .i64 r]) (by simp [results, Tryz.results39, go_sem, r0, r1', r2', g0, g1, g2]) rfl ⟨p7, q7, r7, rfl, Num.fill R12 M7 .., Below.fill3 HB12 (by omega) _ _ _⟩
        · rw [if_neg hc] at hO
          have hlen : (limbs (X' - Y')).length ≤ 4000 := Nat.le_trans (length_mono (Nat.sub_le _ _)) (by omega)
          have hD := fun w' a' n' c' (hn : Num w' a' n' c' (limbs (X' - Y'))) => rDone3_any xs E hn hlen (by omega) (by omega)
          simp only [valL_limbs, hO] at hD
          have hA := fun wx (h : Below w4.heap.size w4 wx) => rsub_n (X' - Y') (N3'.out.below h) (N4'.out.below h) (by rw [valL_limbs, valL_limbs]; omega) (by omega)
          obtain ⟨z, hz, hz0⟩ : ∃ z, cmpN X' Y' = z ∧ (0 : Int) ≤ z := ⟨_, rfl, by rcases cmp_ge hc with h | h <;> omega⟩
          simp only [hz] at hC
          clear hO hc hz
          go_wp2_with fail
          refine (hC _ (Below.refl _ _)).mono ?_
          rintro x w5 ⟨rfl, hb⟩
          have X8 := X7.below hb
          have Y8 := Y7.below hb
          have R8 := R7.below hb
          have HB8 := below_step HB7 hb
          replace hA := fun wx (h : Below w5.heap.size w5 wx) => hA wx (below_step hb h)
          clear hb X7 Y7 R7 HB7 hC x0 x1 x2 y0 y1 y2
          obtain ⟨x0, x1, x2, _, _, _⟩ := id X8
          obtain ⟨y0, y1, y2, _, _, _⟩ := id Y8
          go_wp2_with fail
          have HK := Below.refl w5.heap.size w5
          go_region_held3 (fun wx => Below w.heap.size w wx ∧ wx.cell? ⟨w.heap.size, 0, none⟩ = some (.bool xs)) (first | (refine ⟨?_, ?_⟩ <;> first | assumption | exact Below.drew (by assumption)) | exact ⟨Below.fill3 HB12 (by omega) _ _ _, (B12.other3 (by omega) _ _ _).c0⟩) ((first | (go_at_call 113; (with_reducible refine (hA _ (by first | assumption | exact Below.drew (by assumption))).mono ?_); rintro e v6 ⟨p6, q6, r6, rfl, M6, hb⟩; have B11 := (X8.drew).below hb; have R11 := (R8.drew).below hb; have HB11 := below_step (w0 := w) (Below.drew HB8) hb; have hD6 := hD _ _ _ _ M6; clear x0 x1 x2 y0 y1 y2; obtain ⟨x0, x1, x2, f0, f1, f2⟩ := id B11; clear hb) | (go_at_call 55; (with_reducible refine hD6.mono ?_); rintro e v7 ⟨p7, q7, r7, rfl, M7, hb⟩; have B12 := B11.below hb; have R12 := R11.below hb; have HB12 := below_step (w0 := w) HB11 hb; clear x0 x1 x2 f0 f1 f2; obtain ⟨x0, x1, x2, f0, f1, f2⟩ := id B12; obtain ⟨r0, r1', r2', g0, g1, g2⟩ := id R12; clear hb)))
          go_wp2_with fail
          exact bodyPost_ret (v := .tuple #[.agg #[.bool R.s, .slice p7 q7 r7, .int .i64 R.e], .int .i64 r]) (by simp [results, Tryz.results39, go_sem, r0, r1', r2', g0, g1, g2]) rfl ⟨p7, q7, r7, rfl, Num.fill R12 M7 .., Below.fill3 HB12 (by omega) _ _ _⟩
end
end Go.Proofs.YtjlaadadbpffdaaGreatDoor

namespace Go.Plumb
/-- Which two the law does not sum. -/
def apartP (x y : Int) : Prop := 1099511627776 < x ∨ 1099511627776 < y ∨ x < -1099511627776 ∨ y < -1099511627776 ∨ (6000 < x - y ∧ x - y < 300000) ∨ (6000 < y - x ∧ y - x < 300000)
instance (x y : Int) : Decidable (apartP x y) := by unfold apartP; infer_instance
end Go.Plumb
namespace Go.Proofs.YtjlaadadbpffdaaGreatDoor
open Go.RowKit Go.Plumb
section
variable {w : World} {a b : Option Addr} {n c m d : Nat} {l k : List Nat}
theorem rAdd3_bad1 (s s' : Bool) (e e' : Int) (h1 : Num w a n c l) (hl : l.length ≤ 4000) (hm : ¬ mayE e) :
    Calls Tryz.prog 39 #[.agg #[.bool s, .slice a n c, .int .i64 e], .agg #[.bool s', .slice b m d, .int .i64 e']] w fun x w' => ∃ a' n' c', x = .returned (.tuple #[.agg #[.bool false, .slice a' n' c', .int .i64 0], .int .i64 2]) ∧ Num w' a' n' c' (limbs 0) ∧ Below w.heap.size w w' := by
  obtain ⟨X0, Y0, R0⟩ := three_boxes w s s' a b n c m d e e' 24
  have hM1 := fun w' (hb : Below w.heap.size w w') => rMay3_any s e (h1.below hb) hl
  simp only [decide_eq_false hm] at hM1
  clear hm h1
  go_enter Tryz.func39, Tryz.ntmps39
  go_wp2_with fail
  refine (hM1 _ (by repeat' (first | exact Below.refl _ _ | refine below_alloc ?_ _))).mono ?_
  rintro x w1 ⟨rfl, hb⟩
  have R1 := R0.below hb
  have HB1 := below_step (w0 := w) (by (repeat' (first | exact Below.refl _ _ | assumption | (refine below_alloc ?_ _) | (refine Below.setCell ?_ ?_ _) | (refine Below.drew ?_) | (refine below_drewN ?_ _))) <;> (first | (simp; done) | (simp; omega) | omega)) hb
  clear hb X0 Y0 R0 hM1
  obtain ⟨r0, r1, r2, g0, g1, g2⟩ := id R1
  go_wp2_with fail
  exact bodyPost_ret (v := .tuple #[.agg #[.bool false, .slice none 0 0, .int .i64 0], .int .i64 2]) (by simp [results, Tryz.results39, go_sem, r0, r1, r2, g0, g1, g2]) rfl ⟨none, 0, 0, rfl, (by show Num _ _ _ _ (limbs 0); rw [limbs_zero]; exact Num.nil _), by (repeat' (first | exact Below.refl _ _ | assumption | (refine below_alloc ?_ _) | (refine Below.setCell ?_ ?_ _) | (refine Below.drew ?_) | (refine below_drewN ?_ _))) <;> (first | (simp; done) | (simp; omega) | omega)⟩
theorem rAdd3_bad2 (s s' : Bool) (e e' : Int) (h1 : Num w a n c l) (h2 : Num w b m d k) (hl : l.length ≤ 4000) (hl' : k.length ≤ 4000) (hm : mayE e) (hm' : ¬ mayE e') :
    Calls Tryz.prog 39 #[.agg #[.bool s, .slice a n c, .int .i64 e], .agg #[.bool s', .slice b m d, .int .i64 e']] w fun x w' => ∃ a' n' c', x = .returned (.tuple #[.agg #[.bool false, .slice a' n' c', .int .i64 0], .int .i64 2]) ∧ Num w' a' n' c' (limbs 0) ∧ Below w.heap.size w w' := by
  obtain ⟨X0, Y0, R0⟩ := three_boxes w s s' a b n c m d e e' 24
  have hM1 := fun w' (hb : Below w.heap.size w w') => rMay3_any s e (h1.below hb) hl
  have hM2 := fun w' (hb : Below w.heap.size w w') => rMay3_any s' e' (h2.below hb) hl'
  simp only [decide_eq_true hm] at hM1
  simp only [decide_eq_false hm'] at hM2
  clear hm hm' h1 h2
  go_enter Tryz.func39, Tryz.ntmps39
  go_wp2_with fail
  refine (hM1 _ (by repeat' (first | exact Below.refl _ _ | refine below_alloc ?_ _))).mono ?_
  rintro x w1 ⟨rfl, hb⟩
  have Y1 := Y0.below hb
  have R1 := R0.below hb
  have HB1 := below_step (w0 := w) (by (repeat' (first | exact Below.refl _ _ | assumption | (refine below_alloc ?_ _) | (refine Below.setCell ?_ ?_ _) | (refine Below.drew ?_) | (refine below_drewN ?_ _))) <;> (first | (simp; done) | (simp; omega) | omega)) hb
  clear hb X0 Y0 R0 hM1
  obtain ⟨y0, y1, y2, _, _, _⟩ := id Y1
  go_wp2_with fail
  refine (hM2 _ HB1).mono ?_
  rintro x w2 ⟨rfl, hb⟩
  have R2 := R1.below hb
  have HB2 := below_step HB1 hb
  clear hb Y1 R1 hM2 HB1 y0 y1 y2
  obtain ⟨r0, r1, r2, g0, g1, g2⟩ := id R2
  go_wp2_with fail
  exact bodyPost_ret (v := .tuple #[.agg #[.bool false, .slice none 0 0, .int .i64 0], .int .i64 2]) (by simp [results, Tryz.results39, go_sem, r0, r1, r2, g0, g1, g2]) rfl ⟨none, 0, 0, rfl, (by show Num _ _ _ _ (limbs 0); rw [limbs_zero]; exact Num.nil _), by (repeat' (first | exact Below.refl _ _ | assumption | (refine below_alloc ?_ _) | (refine Below.setCell ?_ ?_ _) | (refine Below.drew ?_) | (refine below_drewN ?_ _))) <;> (first | (simp; done) | (simp; omega) | omega)⟩
theorem rAdd3_any (s s' : Bool) (e e' : Int) (R : Dy) (r : Int) (h1 : Num w a n c l) (h2 : Num w b m d k) (hl : l.length + k.length ≤ 1000) (hnear : farD (nrm ⟨s, valL l, e⟩) (nrm ⟨s', valL k, e'⟩) ∨ nearD (nrm ⟨s, valL l, e⟩) (nrm ⟨s', valL k, e'⟩)) (hO : addO ⟨s, valL l, e⟩ ⟨s', valL k, e'⟩ = (R, r)) :
    Calls Tryz.prog 39 #[.agg #[.bool s, .slice a n c, .int .i64 e], .agg #[.bool s', .slice b m d, .int .i64 e']] w fun x w' => ∃ a' n' c', x = .returned (.tuple #[.agg #[.bool R.s, .slice a' n' c', .int .i64 R.e], .int .i64 r]) ∧ Num w' a' n' c' (limbs R.m) ∧ Below w.heap.size w w' := by
  by_cases hm : mayE e
  · by_cases hm' : mayE e'
    · exact rAdd3_ok s s' e e' R r h1 h2 hl hm hm' hnear hO
    · unfold addO at hO
      rw [if_neg (fun h => hm' h.2)] at hO
      obtain ⟨rfl, rfl⟩ : zeroD = R ∧ 2 = r := ⟨congrArg Prod.fst hO, congrArg Prod.snd hO⟩
      exact rAdd3_bad2 s s' e e' h1 h2 (by omega) (by omega) hm hm'
  · unfold addO at hO
    rw [if_neg (fun h => hm h.1)] at hO
    obtain ⟨rfl, rfl⟩ : zeroD = R ∧ 2 = r := ⟨congrArg Prod.fst hO, congrArg Prod.snd hO⟩
    exact rAdd3_bad1 s s' e e' h1 (by omega) hm
set_option maxHeartbeats 4000000 in
theorem rSub3_any (s s' : Bool) (e e' : Int) (R : Dy) (r : Int) (h1 : Num w a n c l) (h2 : Num w b m d k) (hl : l.length + k.length ≤ 1000) (hnear : farD (nrm ⟨s, valL l, e⟩) (nrm ⟨!s', valL k, e'⟩) ∨ nearD (nrm ⟨s, valL l, e⟩) (nrm ⟨!s', valL k, e'⟩)) (hO : addO ⟨s, valL l, e⟩ ⟨!s', valL k, e'⟩ = (R, r)) :
    Calls Tryz.prog 41 #[.agg #[.bool s, .slice a n c, .int .i64 e], .agg #[.bool s', .slice b m d, .int .i64 e']] w fun x w' => ∃ a' n' c', x = .returned (.tuple #[.agg #[.bool R.s, .slice a' n' c', .int .i64 R.e], .int .i64 r]) ∧ Num w' a' n' c' (limbs R.m) ∧ Below w.heap.size w w' := by
  obtain ⟨X0, Y0, R0⟩ := three_boxes w s s' a b n c m d e e' 24
  obtain ⟨W0, hW0⟩ : ∃ W0, ((w.alloc (.cells #[.bool s, .slice a n c, .int .i64 e] 24)).alloc (.cells #[.bool s', .slice b m d, .int .i64 e'] 24)).alloc (.cells #[.bool false, .slice none 0 0, .int .i64 0] 24) = W0 := ⟨_, rfl⟩
  have HB0 : Below w.heap.size w W0 := by rw [← hW0]; (repeat' (first | exact Below.refl _ _ | assumption | (refine below_alloc ?_ _) | (refine Below.setCell ?_ ?_ _) | (refine Below.drew ?_) | (refine below_drewN ?_ _))) <;> (first | (simp; done) | (simp; omega) | omega)
  rw [hW0] at X0 Y0 R0
  have h1' := h1.below HB0
  have h2' := h2.below HB0
  have hT := fun wx (h : Below W0.heap.size W0 wx) => rTurn3_any s' e' (h2'.below h)
  have hA := fun wx (h : Below W0.heap.size W0 wx) => rAdd3_any s (!s') e e' R r (h1'.below h) (h2'.below h) hl hnear hO
  have HW0 := Lib.hid hW0
  have X0' := Lib.hid X0
  have R0' := Lib.hid R0
  clear hW0 h1 h2 hl hnear hO h1' h2' R0
  go_enter Tryz.func41, Tryz.ntmps41
  go_wp2_with fail
  rw [HW0.out]
  clear HW0
  obtain ⟨x0, x1, x2, _, _, _⟩ := id X0
  obtain ⟨y0, y1, y2, _, _, _⟩ := id Y0
  have Y0' := Lib.hid Y0
  clear X0 Y0
  have HK := Below.refl W0.heap.size W0
  go_region_held3 (fun wx => Below w.heap.size w wx ∧ wx.cell? ⟨w.heap.size, 0, none⟩ = some (.bool s) ∧ wx.cell? ⟨w.heap.size, 1, none⟩ = some (.slice a n c) ∧ wx.cell? ⟨w.heap.size, 2, none⟩ = some (.int .i64 e) ∧ wx.cell? ⟨w.heap.size + 1, 0, none⟩ = some (.bool s') ∧ wx.cell? ⟨w.heap.size + 1, 1, none⟩ = some (.slice b m d) ∧ wx.cell? ⟨w.heap.size + 1, 2, none⟩ = some (.int .i64 e')) (first | (refine ⟨?_, ?_, ?_, ?_, ?_, ?_, ?_⟩ <;> first | assumption | exact Below.drew (by assumption)) | exact ⟨Below.fill3 HB7 (by omega) _ _ _, (X7.other3 (by omega) _ _ _).c0, (X7.other3 (by omega) _ _ _).c1, (X7.other3 (by omega) _ _ _).c2, (Y7.other3 (by omega) _ _ _).c0, (Y7.other3 (by omega) _ _ _).c1, (Y7.other3 (by omega) _ _ _).c2⟩) ((first | (go_at_call 114; (with_reducible refine (hT _ (by first | assumption | exact Below.drew (by assumption))).mono ?_); rintro e v6 ⟨rfl, hb⟩; have HK6 := below_step (w0 := W0) (by first | assumption | exact Below.drew (by assumption)) hb; have HB6 := below_step HB0 HK6; clear x0 x1 x2 y0 y1 y2; obtain ⟨x0, x1, x2, _, _, _⟩ := id (X0'.out.below HK6); obtain ⟨y0, y1, y2, _, _, _⟩ := id (Y0'.out.below HK6); clear hb) | (go_at_call 39; (with_reducible refine (hA _ (by first | assumption | exact Below.drew (by assumption))).mono ?_); rintro e v7 ⟨p7, q7, r7, rfl, M7, hb⟩; have HK7 := below_step (w0 := W0) HK6 hb; have HB7 := below_step HB0 HK7; clear x0 x1 x2 y0 y1 y2; have X7 := X0'.out.below HK7; have Y7 := Y0'.out.below HK7; obtain ⟨x0, x1, x2, _, _, _⟩ := id X7; obtain ⟨y0, y1, y2, _, _, _⟩ := id Y7; have R7 := R0'.out.below HK7; obtain ⟨r0, r1', r2', g0, g1, g2⟩ := id R7; clear hb)))
  go_wp2_with fail
  exact bodyPost_ret (v := .tuple #[.agg #[.bool R.s, .slice p7 q7 r7, .int .i64 R.e], .int .i64 r]) (by simp [results, Tryz.results41, go_sem, r0, r1', r2', g0, g1, g2]) rfl ⟨p7, q7, r7, rfl, Num.fill R7 M7 .., Below.fill3 HB7 (by omega) _ _ _⟩
set_option maxHeartbeats 4000000 in
theorem lapart_any (s s' : Bool) (e e' : Int) (b0 : -9223372036854775808 ≤ e) (b1 : e ≤ 9223372036854775807) (b2 : -9223372036854775808 ≤ e') (b3 : e' ≤ 9223372036854775807) :
    Calls Tryz.prog 37 #[.agg #[.bool s, .slice a n c, .int .i64 e], .agg #[.bool s', .slice b m d, .int .i64 e']] w fun x w' => x = .returned (.bool (decide (apartP e e'))) ∧ Below w.heap.size w w' := by
  obtain ⟨r, hr⟩ : ∃ r, decide (apartP e e') = r := ⟨_, rfl⟩
  rw [hr]
  have yes : apartP e e' → r = true := fun h => by rw [← hr]; exact decide_eq_true h
  have no : ¬ apartP e e' → r = false := fun h => by rw [← hr]; exact decide_eq_false h
  have hiff : apartP e e' ↔ (1099511627776 < e ∨ 1099511627776 < e' ∨ e < -1099511627776 ∨ e' < -1099511627776 ∨ (6000 < e - e' ∧ e - e' < 300000) ∨ (6000 < e' - e ∧ e' - e < 300000)) := Iff.rfl
  clear hr
  rw [hiff] at yes no
  clear hiff
  by_cases c1 : 1099511627776 < e
  · obtain rfl := yes (by omega)
    clear yes no
    go_enter Tryz.func37, Tryz.ntmps37
    go_wp2_with fail
    go_ret
    exact ⟨rfl, by (repeat' (first | exact Below.refl _ _ | assumption | (refine below_alloc ?_ _) | (refine Below.setCell ?_ ?_ _) | (refine Below.drew ?_) | (refine below_drewN ?_ _))) <;> (first | (simp; done) | (simp; omega) | omega)⟩
  by_cases c2 : 1099511627776 < e'
  · obtain rfl := yes (by omega)
    clear yes no
    go_enter Tryz.func37, Tryz.ntmps37
    go_wp2_with fail
    go_ret
    exact ⟨rfl, by (repeat' (first | exact Below.refl _ _ | assumption | (refine below_alloc ?_ _) | (refine Below.setCell ?_ ?_ _) | (refine Below.drew ?_) | (refine below_drewN ?_ _))) <;> (first | (simp; done) | (simp; omega) | omega)⟩
  by_cases c3 : e < -1099511627776
  · obtain rfl := yes (by omega)
    clear yes no
    go_enter Tryz.func37, Tryz.ntmps37
    go_wp2_with fail
    go_ret
    exact ⟨rfl, by (repeat' (first | exact Below.refl _ _ | assumption | (refine below_alloc ?_ _) | (refine Below.setCell ?_ ?_ _) | (refine Below.drew ?_) | (refine below_drewN ?_ _))) <;> (first | (simp; done) | (simp; omega) | omega)⟩
  by_cases c4 : e' < -1099511627776
  · obtain rfl := yes (by omega)
    clear yes no
    go_enter Tryz.func37, Tryz.ntmps37
    go_wp2_with fail
    go_ret
    exact ⟨rfl, by (repeat' (first | exact Below.refl _ _ | assumption | (refine below_alloc ?_ _) | (refine Below.setCell ?_ ?_ _) | (refine Below.drew ?_) | (refine below_drewN ?_ _))) <;> (first | (simp; done) | (simp; omega) | omega)⟩
  have hc : (6000 < e - e' ∧ e - e' < 300000 ∧ r = true) ∨ (6000 < e - e' ∧ ¬ e - e' < 300000 ∧ ¬ 6000 < e' - e ∧ r = false) ∨ (¬ 6000 < e - e' ∧ 6000 < e' - e ∧ e' - e < 300000 ∧ r = true) ∨ (¬ 6000 < e - e' ∧ 6000 < e' - e ∧ ¬ e' - e < 300000 ∧ r = false) ∨ (¬ 6000 < e - e' ∧ ¬ 6000 < e' - e ∧ r = false) := by
    by_cases d1 : 6000 < e - e'
    · by_cases d2 : e - e' < 300000
      · exact .inl ⟨d1, d2, yes (by omega)⟩
      · exact .inr (.inl ⟨d1, d2, by omega, no (by omega)⟩)
    · by_cases d3 : 6000 < e' - e
      · by_cases d4 : e' - e < 300000
        · exact .inr (.inr (.inl ⟨d1, d3, d4, yes (by omega)⟩))
        · exact .inr (.inr (.inr (.inl ⟨d1, d3, d4, no (by omega)⟩)))
      · exact .inr (.inr (.inr (.inr ⟨d1, d3, no (by omega)⟩)))
  clear yes no
  rcases hc with ⟨d1, d2, rfl⟩ | ⟨d1, d2, d3, rfl⟩ | ⟨d1, d2, d3, rfl⟩ | ⟨d1, d2, d3, rfl⟩ | ⟨d1, d2, rfl⟩
  all_goals go_enter Tryz.func37, Tryz.ntmps37
  all_goals go_wp2_with fail
  all_goals go_ret
  all_goals exact ⟨rfl, by (repeat' (first | exact Below.refl _ _ | assumption | (refine below_alloc ?_ _) | (refine Below.setCell ?_ ?_ _) | (refine Below.drew ?_) | (refine below_drewN ?_ _))) <;> (first | (simp; done) | (simp; omega) | omega)⟩
end
end Go.Proofs.YtjlaadadbpffdaaGreatDoor
