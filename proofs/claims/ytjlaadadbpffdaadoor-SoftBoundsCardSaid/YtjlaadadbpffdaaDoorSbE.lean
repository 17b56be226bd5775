/-
  SfE, SfF, SfG, SfH, SfI, SfJ, SfK, SfN, SfO: as one text.
-/
import Derived.Test.YtjlaadadbpffdaaDoorSbA
import Derived.Test.YtjlaadadbpffdaaDoorPfT
import Derived.MapKept
import Derived.Laws.NewFold
import Derived.Orders
import Derived.WideMake
import Derived.Deep.RegionHeld3
import Derived.Deep.RegionWith
set_option linter.unusedSimpArgs false
set_option linter.unusedVariables false
namespace Go.Plumb
theorem word_nrm (x K : Nat) (hK : K = 2100) : Fit 1074 K (nrm (dyW x)) ∧ mayE (nrm (dyW x)).e ∧ (limbs (nrm (dyW x)).m).length ≤ 1 := by
  have h := (word_fit x K hK).nrm (by decide)
  have he := (word_fit x K hK).e (by decide) (by omega)
  refine ⟨h, by unfold mayE; omega, ?_⟩
  rw [nrm_m]
  exact len_le_one (Nat.lt_of_le_of_lt (oddN_le _) (by have := dyW_m_lt x; omega))
theorem add_words (x y : Nat) (W : Nat) (hW : rndD (nrm (addD (nrm (dyW x)) (nrm (dyW y)))) = W) :
    ∃ R, addO (nrm (dyW x)) (nrm (dyW y)) = (R, 0) ∧ (farD (nrm (nrm (dyW x))) (nrm (nrm (dyW y))) ∨ nearD (nrm (nrm (dyW x))) (nrm (nrm (dyW y)))) ∧ mayE R.e ∧ rndD (nrm R) = W ∧ (limbs R.m).length ≤ 1000 := by
  obtain ⟨K, hK⟩ : ∃ K, K = 2100 := ⟨_, rfl⟩
  obtain ⟨f1, m1, _⟩ := word_nrm x K hK
  obtain ⟨f2, m2, _⟩ := word_nrm y K hK
  have h := sumO_ok f1 f2 m1 m2 (by decide) (by omega) (by omega)
  refine ⟨_, h.1, h.2.1, h.2.2, by rw [nrm_nrm]; exact hW, ?_⟩
  have := ((f1.add f2).nrm (by decide)).len
  omega
theorem mul_words (x y : Nat) (W : Nat) (hW : rndD (nrm (mulD (nrm (dyW x)) (nrm (dyW y)))) = W) :
    ∃ R, mulO (nrm (dyW x)) (nrm (dyW y)) = (R, 0) ∧ mayE R.e ∧ rndD (nrm R) = W ∧ (limbs R.m).length ≤ 1000 := by
  obtain ⟨K, hK⟩ : ∃ K, K = 2100 := ⟨_, rfl⟩
  obtain ⟨f1, m1, _⟩ := word_nrm x K hK
  obtain ⟨f2, m2, _⟩ := word_nrm y K hK
  have h := mulO_ok f1 f2 m1 m2 (by decide) (by decide) (by omega) (by omega) (by omega) (by omega)
  refine ⟨_, h.1, h.2, by rw [nrm_nrm]; exact hW, ?_⟩
  have := ((f1.mul f2).nrm (by decide)).len
  omega
theorem fma_words (x y z : Nat) (W : Nat) (hW : rndD (nrm (addD (nrm (mulD (nrm (dyW x)) (nrm (dyW y)))) (nrm (dyW z)))) = W) :
    ∃ Q R, mulO (nrm (dyW x)) (nrm (dyW y)) = (Q, 0) ∧ (limbs Q.m).length ≤ 400 ∧ addO Q (nrm (dyW z)) = (R, 0) ∧ (farD (nrm Q) (nrm (nrm (dyW z))) ∨ nearD (nrm Q) (nrm (nrm (dyW z)))) ∧ mayE R.e ∧ rndD (nrm R) = W ∧ (limbs R.m).length ≤ 1000 := by
  obtain ⟨K, hK⟩ : ∃ K, K = 2100 := ⟨_, rfl⟩
  obtain ⟨f1, m1, _⟩ := word_nrm x K hK
  obtain ⟨f2, m2, _⟩ := word_nrm y K hK
  obtain ⟨f3, m3, _⟩ := word_nrm z K hK
  have h := mulO_ok f1 f2 m1 m2 (by decide) (by decide) (by omega) (by omega) (by omega) (by omega)
  have fQ := (f1.mul f2).nrm (by decide)
  have f4 : Fit (1074 + 1074) (K + K) (nrm (dyW z)) := (f3.low (Q := 1074 + 1074) (by decide) rfl).more (by simp; omega)
  have g := sumO_ok fQ f4 h.2 m3 (by decide) (by omega) (by omega)
  refine ⟨_, _, h.1, ?_, g.1, g.2.1, g.2.2, by rw [nrm_nrm]; exact hW, ?_⟩
  · have := fQ.len
    omega
  · have := ((fQ.add f4).nrm (by decide)).len
    omega
theorem quo_words (x y : Nat) (hx : clsI x = 1) (hy : clsI y = 1) : quoO (nrm (dyW x)) (nrm (dyW y)) = (quoD (nrm (dyW x)) (nrm (dyW y)), 0) := by
  obtain ⟨K, hK⟩ : ∃ K, K = 2100 := ⟨_, rfl⟩
  obtain ⟨_, m1, _⟩ := word_nrm x K hK
  obtain ⟨_, m2, _⟩ := word_nrm y K hK
  unfold quoO
  rw [if_pos ⟨m1, m2⟩, if_neg (fun h => (cls1 hy).2 ((nrm_m_zero _).1 h)), if_neg (fun h => (cls1 hx).2 ((nrm_m_zero _).1 h))]
theorem root_words (x : Nat) (h1 : x < 18446744073709551616) (hx : clsI x = 1) (hs : negW x = false) : rootO (nrm (dyW x)) = (rootD (nrm (dyW x)), 0) := by
  obtain ⟨K, hK⟩ : ∃ K, K = 2100 := ⟨_, rfl⟩
  obtain ⟨_, m1, _⟩ := word_nrm x K hK
  unfold rootO
  rw [if_pos m1, if_neg (fun h => (cls1 hx).2 ((nrm_m_zero _).1 h)), if_neg]
  rw [nrm_s (cls1 hx).2, dyW_s x (cls1 hx).1 h1, hs]
  decide
theorem addW_sgn (x y : Nat) (hx : clsI x = 0) (hy : clsI y = 0) : addW x y = sgnW 0 (negW x && negW y) := by
  unfold addW
  rw [if_neg (by rw [hx, hy]; simp), if_neg (by rw [hx]; decide), if_neg (by rw [hy]; decide), if_pos ⟨hx, hy⟩, wordN_sgn0]
theorem addW_nan (x y : Nat) (h : clsI x = 3 ∨ clsI y = 3 ∨ (clsI x = 2 ∧ clsI y = 2 ∧ negW x ≠ negW y)) : addW x y = nanN := by
  unfold addW
  rw [if_pos h]
theorem addW_l (x y : Nat) (hx : clsI x = 2) (h : ¬ (clsI x = 3 ∨ clsI y = 3 ∨ (clsI x = 2 ∧ clsI y = 2 ∧ negW x ≠ negW y))) : addW x y = x := by
  unfold addW
  rw [if_neg h, if_pos hx]
theorem addW_r (x y : Nat) (hx : clsI x ≠ 2) (hy : clsI y = 2) (h : ¬ (clsI x = 3 ∨ clsI y = 3 ∨ (clsI x = 2 ∧ clsI y = 2 ∧ negW x ≠ negW y))) : addW x y = y := by
  unfold addW
  rw [if_neg h, if_neg hx, if_pos hy]
theorem addW_num (x y : Nat) (hx : clsI x ≠ 2) (hy : clsI y ≠ 2) (h0 : ¬ (clsI x = 0 ∧ clsI y = 0)) (h : ¬ (clsI x = 3 ∨ clsI y = 3 ∨ (clsI x = 2 ∧ clsI y = 2 ∧ negW x ≠ negW y))) : addW x y = rndD (nrm (addD (nrm (dyW x)) (nrm (dyW y)))) := by
  unfold addW
  rw [if_neg h, if_neg hx, if_neg hy, if_neg h0]
theorem cls_not5 {x : Nat} (h : clsI x ≠ 3) : classI (x : Int) ≠ 5 := by
  intro h5
  apply h
  unfold clsI
  rw [if_pos h5]
end Go.Plumb
namespace Go.Proofs.YtjlaadadbpffdaaDoor
open Go.RowKit Go.Plumb
section
variable {w : World}
theorem cls_v (x : Nat) (c : Int) (hc : clsI x = c) (w : World) (hx : x < 18446744073709551616) :
    Calls Tryd.prog 29 #[.float .f64 x] w fun z w' => z = .returned (.int .i64 c) ∧ w = w' := by
  subst hc
  exact sclass_any x w hx
theorem minus_v (x : Nat) (c : Bool) (h3 : clsI x ≠ 3) (hc : negW x = c) (w : World) (hx : x < 18446744073709551616) :
    Calls Tryd.prog 30 #[.float .f64 x] w fun z w' => z = .returned (.bool c) ∧ w = w' := by
  subst hc
  rw [← minusW_eq x (cls_not5 h3)]
  exact sminus_any x w hx
theorem sof_v (x : Nat) (X : Dy) (hX : nrm (dyW x) = X) (hx : x < 18446744073709551616) (hc : classI (x : Int) ≤ 3) (hT : Tab w) :
    Calls Tryd.prog 35 #[.float .f64 x] w fun z w' => ∃ a' n' c', z = .returned (.agg #[.bool X.s, .slice a' n' c', .int .i64 X.e]) ∧ Num w' a' n' c' (limbs X.m) ∧ Below w.heap.size w w' := by
  subst hX
  exact sof_any x hx hc hT
theorem sAdd_nan (x y : Nat) (cx cy : Int) (hcx : clsI x = cx) (hcy : clsI y = cy) (h : cx = 3 ∨ cy = 3) (w : World) (hx : x < 18446744073709551616) (hy : y < 18446744073709551616) :
    Calls Tryd.prog 11 #[.float .f64 x, .float .f64 y] w fun z w' => z = .returned (.float .f64 nanN) ∧ w = w' := by
  have C1 := fun w => cls_v x cx hcx w hx
  have C2 := fun w => cls_v y cy hcy w hy
  clear hcx hcy hx hy
  by_cases h3 : cx = 3
  · subst h3
    go_enter Tryd.func11, Tryd.ntmps11
    go_wp2_with fail
    refine (C1 _).mono ?_
    rintro z w' ⟨rfl, rfl⟩
    go_wp2_with fail
    refine (C2 _).mono ?_
    rintro z w' ⟨rfl, rfl⟩
    go_wp2_with fail
    refine (snan_any _).mono ?_
    rintro z w' ⟨rfl, rfl⟩
    go_wp2_with fail
    go_ret
    exact ⟨rfl, rfl⟩
  · obtain rfl : cy = 3 := h.resolve_left h3
    clear h
    go_enter Tryd.func11, Tryd.ntmps11
    go_wp2_with fail
    refine (C1 _).mono ?_
    rintro z w' ⟨rfl, rfl⟩
    go_wp2_with fail
    refine (C2 _).mono ?_
    rintro z w' ⟨rfl, rfl⟩
    go_wp2_with fail
    refine (snan_any _).mono ?_
    rintro z w' ⟨rfl, rfl⟩
    go_wp2_with fail
    go_ret
    exact ⟨rfl, rfl⟩
theorem sAdd_inf2 (x y : Nat) (hcx : clsI x = 2) (hcy : clsI y = 2) (w : World) (hx : x < 18446744073709551616) (hy : y < 18446744073709551616) :
    Calls Tryd.prog 11 #[.float .f64 x, .float .f64 y] w fun z w' => z = .returned (.float .f64 (addW x y)) ∧ w = w' := by
  have C1 := fun w => cls_v x 2 hcx w hx
  have C2 := fun w => cls_v y 2 hcy w hy
  obtain ⟨b1, hb1⟩ : ∃ b, negW x = b := ⟨_, rfl⟩
  obtain ⟨b2, hb2⟩ : ∃ b, negW y = b := ⟨_, rfl⟩
  have M1 := fun w => minus_v x b1 (by rw [hcx]; decide) hb1 w hx
  have M2 := fun w => minus_v y b2 (by rw [hcy]; decide) hb2 w hy
  by_cases hb : b1 = b2
  · have hW : addW x y = x := addW_l x y hcx (by rw [hcx, hcy, hb1, hb2, hb]; simp)
    rw [hW]
    clear hW hb1 hb2 hcx hcy hx hy
    subst hb
    go_enter Tryd.func11, Tryd.ntmps11
    go_wp2_with fail
    refine (C1 _).mono ?_
    rintro z w' ⟨rfl, rfl⟩
    go_wp2_with fail
    refine (C2 _).mono ?_
    rintro z w' ⟨rfl, rfl⟩
    go_wp2_with fail
    refine (M1 _).mono ?_
    rintro z w' ⟨rfl, rfl⟩
    go_wp2_with fail
    refine (M2 _).mono ?_
    rintro z w' ⟨rfl, rfl⟩
    go_wp2_with fail
    go_ret
    exact ⟨rfl, rfl⟩
  · have hW : addW x y = nanN := addW_nan x y (.inr (.inr ⟨hcx, hcy, by rw [hb1, hb2]; exact hb⟩))
    rw [hW]
    clear hW hb1 hb2 hcx hcy hx hy
    obtain rfl : b1 = !b2 := by cases b1 <;> cases b2 <;> first | rfl | exact absurd rfl hb
    clear hb
    cases b2
    all_goals go_enter Tryd.func11, Tryd.ntmps11
    all_goals go_wp2_with fail
    all_goals refine (C1 _).mono ?_
    all_goals rintro z w' ⟨rfl, rfl⟩
    all_goals go_wp2_with fail
    all_goals refine (C2 _).mono ?_
    all_goals rintro z w' ⟨rfl, rfl⟩
    all_goals go_wp2_with fail
    all_goals refine (M1 _).mono ?_
    all_goals rintro z w' ⟨rfl, rfl⟩
    all_goals go_wp2_with fail
    all_goals refine (M2 _).mono ?_
    all_goals rintro z w' ⟨rfl, rfl⟩
    all_goals go_wp2_with fail
    all_goals refine (snan_any _).mono ?_
    all_goals rintro z w' ⟨rfl, rfl⟩
    all_goals go_wp2_with fail
    all_goals go_ret
    all_goals exact ⟨rfl, rfl⟩
theorem sAdd_inf (x y : Nat) (cx cy : Int) (hcx : clsI x = cx) (hcy : clsI y = cy) (h : (cx = 2 ∧ (cy = 0 ∨ cy = 1)) ∨ (cy = 2 ∧ (cx = 0 ∨ cx = 1))) (w : World) (hx : x < 18446744073709551616) (hy : y < 18446744073709551616) :
    Calls Tryd.prog 11 #[.float .f64 x, .float .f64 y] w fun z w' => z = .returned (.float .f64 (addW x y)) ∧ w = w' := by
  have C1 := fun w => cls_v x cx hcx w hx
  have C2 := fun w => cls_v y cy hcy w hy
  have hW : addW x y = if cx = 2 then x else y := by
    rcases h with ⟨rfl, h | h⟩ | ⟨rfl, h | h⟩
    · rw [if_pos rfl]; exact addW_l x y hcx (by rw [hcx, hcy, h]; simp)
    · rw [if_pos rfl]; exact addW_l x y hcx (by rw [hcx, hcy, h]; simp)
    · rw [h, if_neg (by decide)]; exact addW_r x y (by rw [hcx, h]; decide) hcy (by rw [hcx, hcy, h]; simp)
    · rw [h, if_neg (by decide)]; exact addW_r x y (by rw [hcx, h]; decide) hcy (by rw [hcx, hcy, h]; simp)
  rw [hW]
  clear hW hcx hcy hx hy
  rcases h with ⟨rfl, rfl | rfl⟩ | ⟨rfl, rfl | rfl⟩
  all_goals go_enter Tryd.func11, Tryd.ntmps11
  all_goals go_wp2_with fail
  all_goals refine (C1 _).mono ?_
  all_goals rintro z w' ⟨rfl, rfl⟩
  all_goals go_wp2_with fail
  all_goals refine (C2 _).mono ?_
  all_goals rintro z w' ⟨rfl, rfl⟩
  all_goals go_wp2_with fail
  all_goals go_ret
  all_goals exact ⟨rfl, rfl⟩
theorem sAdd_zeros (x y : Nat) (hcx : clsI x = 0) (hcy : clsI y = 0) (w : World) (hx : x < 18446744073709551616) (hy : y < 18446744073709551616) :
    Calls Tryd.prog 11 #[.float .f64 x, .float .f64 y] w fun z w' => z = .returned (.float .f64 (addW x y)) ∧ w = w' := by
  have C1 := fun w => cls_v x 0 hcx w hx
  have C2 := fun w => cls_v y 0 hcy w hy
  rw [addW_sgn x y hcx hcy]
  obtain ⟨b1, hb1⟩ : ∃ b, negW x = b := ⟨_, rfl⟩
  obtain ⟨b2, hb2⟩ : ∃ b, negW y = b := ⟨_, rfl⟩
  have M1 := fun w => minus_v x b1 (by rw [hcx]; decide) hb1 w hx
  have M2 := fun w => minus_v y b2 (by rw [hcy]; decide) hb2 w hy
  rw [hb1, hb2]
  clear hb1 hb2 hcx hcy hx hy
  have S0 := fun b w => signed_any 0 b w (by decide)
  cases b1
  · rw [Bool.false_and]
    go_enter Tryd.func11, Tryd.ntmps11
    go_wp2_with fail
    refine (C1 _).mono ?_
    rintro z w' ⟨rfl, rfl⟩
    go_wp2_with fail
    refine (C2 _).mono ?_
    rintro z w' ⟨rfl, rfl⟩
    go_wp2_with fail
    refine (M1 _).mono ?_
    rintro z w' ⟨rfl, rfl⟩
    go_wp2_with fail
    refine (S0 _ _).mono ?_
    rintro z w' ⟨rfl, rfl⟩
    go_wp2_with fail
    go_ret
    exact ⟨rfl, rfl⟩
  · rw [Bool.true_and]
    go_enter Tryd.func11, Tryd.ntmps11
    go_wp2_with fail
    refine (C1 _).mono ?_
    rintro z w' ⟨rfl, rfl⟩
    go_wp2_with fail
    refine (C2 _).mono ?_
    rintro z w' ⟨rfl, rfl⟩
    go_wp2_with fail
    refine (M1 _).mono ?_
    rintro z w' ⟨rfl, rfl⟩
    go_wp2_with fail
    refine (M2 _).mono ?_
    rintro z w' ⟨rfl, rfl⟩
    go_wp2_with fail
    refine (S0 _ _).mono ?_
    rintro z w' ⟨rfl, rfl⟩
    go_wp2_with fail
    go_ret
    exact ⟨rfl, rfl⟩
theorem sAdd_num (x y : Nat) (cx cy : Int) (hcx : clsI x = cx) (hcy : clsI y = cy) (h : (cx = 0 ∧ cy = 1) ∨ (cx = 1 ∧ cy = 0) ∨ (cx = 1 ∧ cy = 1)) (hT : Tab w) (hx : x < 18446744073709551616) (hy : y < 18446744073709551616) :
    Calls Tryd.prog 11 #[.float .f64 x, .float .f64 y] w fun z w' => z = .returned (.float .f64 (addW x y)) ∧ Below w.heap.size w w' := by
  have C1 := fun w => cls_v x cx hcx w hx
  have C2 := fun w => cls_v y cy hcy w hy
  have k1 : classI (x : Int) ≤ 3 := by
    rcases h with ⟨h, _⟩ | ⟨h, _⟩ | ⟨h, _⟩
    · exact (cls0 (hcx.trans h)).1
    · exact (cls1 (hcx.trans h)).1
    · exact (cls1 (hcx.trans h)).1
  have k2 : classI (y : Int) ≤ 3 := by
    rcases h with ⟨_, h⟩ | ⟨_, h⟩ | ⟨_, h⟩
    · exact (cls1 (hcy.trans h)).1
    · exact (cls0 (hcy.trans h)).1
    · exact (cls1 (hcy.trans h)).1
  have hW : addW x y = rndD (nrm (addD (nrm (dyW x)) (nrm (dyW y)))) := by
    refine addW_num x y ?_ ?_ ?_ ?_ <;> simp only [hcx, hcy] <;> (rcases h with ⟨rfl, rfl⟩ | ⟨rfl, rfl⟩ | ⟨rfl, rfl⟩) <;> simp
  rw [hW]
  obtain ⟨W, hW'⟩ : ∃ W, rndD (nrm (addD (nrm (dyW x)) (nrm (dyW y)))) = W := ⟨_, rfl⟩
  rw [hW']
  obtain ⟨R, q1, q2, q3, q4, q5⟩ := add_words x y W hW'
  obtain ⟨X, hX⟩ : ∃ X, nrm (dyW x) = X := ⟨_, rfl⟩
  obtain ⟨Y, hY⟩ : ∃ Y, nrm (dyW y) = Y := ⟨_, rfl⟩
  have l1 := (word_nrm x _ rfl).2.2
  have l2 := (word_nrm y _ rfl).2.2
  rw [hX] at q1 q2 l1
  rw [hY] at q1 q2 l2
  have O1 := fun w' (hb : Below w.heap.size w w') => sof_v x X hX hx k1 (hT.below hb)
  have O2 := fun w' (hb : Below w.heap.size w w') => sof_v y Y hY hy k2 (hT.below hb)
  have HQ := Lib.hid (And.intro q1 (And.intro q2 (And.intro q3 (And.intro q4 (And.intro q5 (And.intro l1 l2))))))
  have HT := Lib.hid hT
  clear hW hW' hcx hcy k1 k2 q1 q2 q3 q4 q5 l1 l2 hX hY hx hy hT
  rcases h with ⟨rfl, rfl⟩ | ⟨rfl, rfl⟩ | ⟨rfl, rfl⟩
  all_goals go_enter Tryd.func11, Tryd.ntmps11
  all_goals go_wp2_with fail
  all_goals refine (C1 _).mono ?_
  all_goals rintro z w' ⟨rfl, rfl⟩
  all_goals go_wp2_with fail
  all_goals refine (C2 _).mono ?_
  all_goals rintro z w' ⟨rfl, rfl⟩
  all_goals go_wp2_with fail
  all_goals refine (O1 _ (by repeat' (first | exact Below.refl _ _ | refine below_alloc ?_ _))).mono ?_
  all_goals rintro z w1 ⟨a1, n1, c1, rfl, N1, hb1⟩
  all_goals go_wp2_with fail
  all_goals refine (O2 _ hb1).mono ?_
  all_goals rintro z w2 ⟨a2, n2, c2, rfl, N2, hb2⟩
  all_goals have hb := below_step hb1 hb2
  all_goals go_wp2_with fail
  all_goals refine (dAdd_v X.s Y.s X.e Y.e R 0 (HT.out.below hb) (N1.below hb2) N2 (valL_limbs _) (valL_limbs _) (by have := HQ.out.2.2.2.2.2; omega) HQ.out.2.1 HQ.out.1).mono ?_
  all_goals rintro z w3 ⟨a3, n3, c3, rfl, N3, hb3⟩
  all_goals have hB := below_step hb hb3
  all_goals go_wp2_with fail
  all_goals refine (rounded_any R.s R.e 0 W (HT.out.below hB) N3 (Nat.le_trans HQ.out.2.2.2.2.1 (by decide)) HQ.out.2.2.1 (by rw [valL_limbs]; exact HQ.out.2.2.2.1)).mono ?_
  all_goals rintro z w4 ⟨rfl, hb4⟩
  all_goals go_wp2_with fail
  all_goals go_ret
  all_goals exact ⟨rfl, below_step hB hb4⟩
theorem sAdd_any (x y : Nat) (hT : Tab w) (hx : x < 18446744073709551616) (hy : y < 18446744073709551616) :
    Calls Tryd.prog 11 #[.float .f64 x, .float .f64 y] w fun z w' => z = .returned (.float .f64 (addW x y)) ∧ Below w.heap.size w w' := by
  rcases cls_cases x with h | h | h | h <;> rcases cls_cases y with k | k | k | k
  · exact (sAdd_zeros x y h k w hx hy).mono fun z w' ⟨p, q⟩ => ⟨p, q ▸ Below.refl _ _⟩
  · exact sAdd_num x y 0 1 h k (.inl ⟨rfl, rfl⟩) hT hx hy
  · exact (sAdd_inf x y 0 2 h k (by decide) w hx hy).mono fun z w' ⟨p, q⟩ => ⟨p, q ▸ Below.refl _ _⟩
  · rw [addW_nan x y (.inr (.inl k))]
    exact (sAdd_nan x y 0 3 h k (by decide) w hx hy).mono fun z w' ⟨p, q⟩ => ⟨p, q ▸ Below.refl _ _⟩
  · exact sAdd_num x y 1 0 h k (.inr (.inl ⟨rfl, rfl⟩)) hT hx hy
  · exact sAdd_num x y 1 1 h k (.inr (.inr ⟨rfl, rfl⟩)) hT hx hy
  · exact (sAdd_inf x y 1 2 h k (by decide) w hx hy).mono fun z w' ⟨p, q⟩ => ⟨p, q ▸ Below.refl _ _⟩
  · rw [addW_nan x y (.inr (.inl k))]
    exact (sAdd_nan x y 1 3 h k (by decide) w hx hy).mono fun z w' ⟨p, q⟩ => ⟨p, q ▸ Below.refl _ _⟩
  · exact (sAdd_inf x y 2 0 h k (by decide) w hx hy).mono fun z w' ⟨p, q⟩ => ⟨p, q ▸ Below.refl _ _⟩
  · exact (sAdd_inf x y 2 1 h k (by decide) w hx hy).mono fun z w' ⟨p, q⟩ => ⟨p, q ▸ Below.refl _ _⟩
  · exact (sAdd_inf2 x y h k w hx hy).mono fun z w' ⟨p, q⟩ => ⟨p, q ▸ Below.refl _ _⟩
  · rw [addW_nan x y (.inr (.inl k))]
    exact (sAdd_nan x y 2 3 h k (by decide) w hx hy).mono fun z w' ⟨p, q⟩ => ⟨p, q ▸ Below.refl _ _⟩
  · rw [addW_nan x y (.inl h)]
    exact (sAdd_nan x y 3 0 h k (by decide) w hx hy).mono fun z w' ⟨p, q⟩ => ⟨p, q ▸ Below.refl _ _⟩
  · rw [addW_nan x y (.inl h)]
    exact (sAdd_nan x y 3 1 h k (by decide) w hx hy).mono fun z w' ⟨p, q⟩ => ⟨p, q ▸ Below.refl _ _⟩
  · rw [addW_nan x y (.inl h)]
    exact (sAdd_nan x y 3 2 h k (by decide) w hx hy).mono fun z w' ⟨p, q⟩ => ⟨p, q ▸ Below.refl _ _⟩
  · rw [addW_nan x y (.inl h)]
    exact (sAdd_nan x y 3 3 h k (by decide) w hx hy).mono fun z w' ⟨p, q⟩ => ⟨p, q ▸ Below.refl _ _⟩
theorem sSub_any (x y : Nat) (hT : Tab w) (hx : x < 18446744073709551616) (hy : y < 18446744073709551616) :
    Calls Tryd.prog 16 #[.float .f64 x, .float .f64 y] w fun z w' => z = .returned (.float .f64 (addW x (sgnW y true))) ∧ Below w.heap.size w w' := by
  have S := fun w => signed_any y true w hy
  have hA := sAdd_any x (sgnW y true) hT hx (sgn_lt y true hy)
  clear hT hx hy
  go_enter Tryd.func16, Tryd.ntmps16
  go_wp2_with fail
  refine (S _).mono ?_
  rintro z w' ⟨rfl, rfl⟩
  go_wp2_with fail
  refine hA.mono ?_
  rintro z w' ⟨rfl, hb⟩
  go_wp2_with fail
  go_ret
  exact ⟨rfl, hb⟩
end
end Go.Proofs.YtjlaadadbpffdaaDoor

namespace Go.Proofs.YtjlaadadbpffdaaDoor
open Go.RowKit Go.Plumb
section
variable {w : World}
theorem sSqrt_any (x : Nat) (hT : Tab w) (hx : x < 18446744073709551616) :
    Calls Tryd.prog 17 #[.float .f64 x] w fun z w' => z = .returned (.float .f64 (sqrtW x)) ∧ Below w.heap.size w w' := by
  have hne := ne_self_iff x hx
  have S := fun w => signed_any x false w hx
  have e0 : sgnW x false = x := rfl
  rw [e0] at S
  rcases cls_cases x with h | h | h | h
  · have C := fun w => cls_v x 0 h w hx
    have hW : sqrtW x = x := by unfold sqrtW; rw [if_pos (.inl h)]
    rw [hW]
    clear hW h hx hT hne
    go_enter Tryd.func17, Tryd.ntmps17
    go_wp2_with fail
    refine (C _).mono ?_
    rintro z w' ⟨rfl, rfl⟩
    go_wp2_with fail
    refine (S _).mono ?_
    rintro z w' ⟨rfl, rfl⟩
    go_wp2_with fail
    go_ret
    exact ⟨rfl, Below.refl _ _⟩
  · have C := fun w => cls_v x 1 h w hx
    have hf : (FloatKind.f64.format.order x x != some Ordering.eq) = false := by
      rw [Bool.eq_false_iff]
      exact fun h' => cls_not5 (by rw [h]; decide) (hne.1 h')
    clear hne
    obtain ⟨b, hb⟩ : ∃ b, negW x = b := ⟨_, rfl⟩
    have M := fun w => minus_v x b (by rw [h]; decide) hb w hx
    cases b
    · have hW : sqrtW x = rootD (nrm (dyW x)) := by unfold sqrtW; rw [if_neg (by rw [h]; decide), hb, if_neg (by decide), if_neg (by rw [h]; decide)]
      rw [hW]
      have hr := root_words x hx h hb
      obtain ⟨W, hW'⟩ : ∃ W, rootD (nrm (dyW x)) = W := ⟨_, rfl⟩
      rw [hW'] at hr ⊢
      obtain ⟨X, hX⟩ : ∃ X, nrm (dyW x) = X := ⟨_, rfl⟩
      have l1 := (word_nrm x _ rfl).2.2
      rw [hX] at hr l1
      have O1 := fun w' (hb : Below w.heap.size w w') => sof_v x X hX hx (cls1 h).1 (hT.below hb)
      have HR := Lib.hid (And.intro hr l1)
      have HT := Lib.hid hT
      clear hW hW' hr hX l1 h hx hb S hT
      go_enter Tryd.func17, Tryd.ntmps17
      go_wp2_with fail
      refine (C _).mono ?_
      rintro z w' ⟨rfl, rfl⟩
      go_wp2_with fail
      refine (M _).mono ?_
      rintro z w' ⟨rfl, rfl⟩
      go_wp2_with fail
      refine (C _).mono ?_
      rintro z w' ⟨rfl, rfl⟩
      go_wp2_with fail
      refine (O1 _ (by repeat' (first | exact Below.refl _ _ | refine below_alloc ?_ _))).mono ?_
      rintro z w1 ⟨a1, n1, c1, rfl, N1, hb1⟩
      go_wp2_with fail
      refine (sRoot_any X.s X.e (HT.out.below hb1) N1 (Nat.le_trans HR.out.2 (by decide)) W 0 (by rw [valL_limbs]; exact HR.out.1)).mono ?_
      rintro z w2 ⟨rfl, hb2⟩
      go_wp2_with fail
      go_ret
      exact ⟨rfl, below_step hb1 hb2⟩
    · have hW : sqrtW x = nanN := by unfold sqrtW; rw [if_neg (by rw [h]; decide), hb, if_pos rfl]
      rw [hW]
      clear hW h hx hb S hT
      go_enter Tryd.func17, Tryd.ntmps17
      go_wp2_with fail
      refine (C _).mono ?_
      rintro z w' ⟨rfl, rfl⟩
      go_wp2_with fail
      refine (M _).mono ?_
      rintro z w' ⟨rfl, rfl⟩
      go_wp2_with fail
      refine (snan_any _).mono ?_
      rintro z w' ⟨rfl, rfl⟩
      go_wp2_with fail
      go_ret
      exact ⟨rfl, Below.refl _ _⟩
  · have C := fun w => cls_v x 2 h w hx
    have hf : (FloatKind.f64.format.order x x != some Ordering.eq) = false := by
      rw [Bool.eq_false_iff]
      exact fun h' => cls_not5 (by rw [h]; decide) (hne.1 h')
    clear hne
    obtain ⟨b, hb⟩ : ∃ b, negW x = b := ⟨_, rfl⟩
    have M := fun w => minus_v x b (by rw [h]; decide) hb w hx
    cases b
    · have hW : sqrtW x = x := by unfold sqrtW; rw [if_neg (by rw [h]; decide), hb, if_neg (by decide), if_pos h]
      rw [hW]
      clear hW h hx hb S hT
      go_enter Tryd.func17, Tryd.ntmps17
      go_wp2_with fail
      refine (C _).mono ?_
      rintro z w' ⟨rfl, rfl⟩
      go_wp2_with fail
      refine (M _).mono ?_
      rintro z w' ⟨rfl, rfl⟩
      go_wp2_with fail
      refine (C _).mono ?_
      rintro z w' ⟨rfl, rfl⟩
      go_wp2_with fail
      go_ret
      exact ⟨rfl, Below.refl _ _⟩
    · have hW : sqrtW x = nanN := by unfold sqrtW; rw [if_neg (by rw [h]; decide), hb, if_pos rfl]
      rw [hW]
      clear hW h hx hb S hT
      go_enter Tryd.func17, Tryd.ntmps17
      go_wp2_with fail
      refine (C _).mono ?_
      rintro z w' ⟨rfl, rfl⟩
      go_wp2_with fail
      refine (M _).mono ?_
      rintro z w' ⟨rfl, rfl⟩
      go_wp2_with fail
      refine (snan_any _).mono ?_
      rintro z w' ⟨rfl, rfl⟩
      go_wp2_with fail
      go_ret
      exact ⟨rfl, Below.refl _ _⟩
  · have C := fun w => cls_v x 3 h w hx
    have hf : (FloatKind.f64.format.order x x != some Ordering.eq) = true := hne.2 (cls3 h)
    have hW : sqrtW x = x := by unfold sqrtW; rw [if_pos (.inr h)]
    rw [hW]
    clear hW h hx hT hne
    go_enter Tryd.func17, Tryd.ntmps17
    go_wp2_with fail
    refine (C _).mono ?_
    rintro z w' ⟨rfl, rfl⟩
    go_wp2_with fail
    refine (S _).mono ?_
    rintro z w' ⟨rfl, rfl⟩
    go_wp2_with fail
    go_ret
    exact ⟨rfl, Below.refl _ _⟩
end
end Go.Proofs.YtjlaadadbpffdaaDoor

namespace Go.Plumb
open Go.RowKit
/-- A map's block, newly filled. -/
def mset (w : World) (b : Nat) (es : Array MapEntry) (c : Nat) : World := { w with heap := w.heap.setIfInBounds b (.map es c) }
theorem mset_size (w : World) (b : Nat) (es : Array MapEntry) (c : Nat) : (mset w b es c).heap.size = w.heap.size := by simp [mset]
theorem mset_at {w : World} {b : Nat} (hb : b < w.heap.size) (es : Array MapEntry) (c : Nat) : (mset w b es c).heap[b]? = some (.map es c) := by
  simp [mset, Array.getElem?_setIfInBounds, hb]
theorem Below.mset {B : Nat} {w w1 : World} (h : Below B w w1) {b : Nat} (hb : B ≤ b) (es : Array MapEntry) (c : Nat) : Below B w (mset w1 b es c) :=
  ⟨h.os, h.tape, h.output, by rw [mset_size]; exact h.size, fun k hk => by
    have h1 := h.block k hk
    rw [← h1]
    simp only [Plumb.mset, Array.getElem?_setIfInBounds]
    rw [if_neg (by omega)]⟩
theorem mset_mset (w : World) (b : Nat) (es es' : Array MapEntry) (c c' : Nat) : mset (mset w b es c) b es' c' = mset w b es' c' := by
  simp [mset]
theorem map_below {w w' : World} {b : Nat} {es : Array MapEntry} {c : Nat} (h : w.heap[b]? = some (.map es c)) (hb : Below w.heap.size w w') : w'.heap[b]? = some (.map es c) := by
  have hl : b < w.heap.size := by
    apply Nat.lt_of_not_le
    intro hle
    rw [Array.getElem?_eq_none hle] at h
    cases h
  rw [hb.block b hl]
  exact h
section
variable {P : Program} {T K E : TypeId} {b c : Nat} {es : Array MapEntry} {key val : Value} {w : World}
theorem run_put (ht : P.underlying T = some (.map K E)) (hb : w.heap[b]? = some (.map es c)) (hc : ∀ w, (Instr.checkKey false 10000 K key).run P w = .ok () w) (hf : ∀ w, (Instr.findKey K key es.toList).run P w = .ok none w) :
    (Instr.mapUpdate T (.map (some b)) key val).run P w = .ok () (mset w b (es.push ⟨key, val, c⟩) (c + 1)) := by
  simp [Instr.mapUpdate, run_underlying ht, MapKept.run_getObj_map hb, hc, hf, MapKept.run_setObj_map _ hb, Result.andThen, mset]
theorem run_got {v : Value} {i : Nat} (ht : P.underlying T = some (.map K E)) (hb : w.heap[b]? = some (.map es c)) (hn : es.isEmpty = false) (hc : ∀ w, (Instr.checkKey false 10000 K key).run P w = .ok () w) (hf : ∀ w, (Instr.findKey K key es.toList).run P w = .ok (some (i, v)) w) :
    (Instr.lookup T (.map (some b)) key true).run P w = .ok (.tuple #[v, .bool true]) w := by
  simp [Instr.lookup, run_underlying ht, MapKept.run_getObj_map hb, hn, hc, hf, Result.andThen]
theorem run_miss {z : Value} (ht : P.underlying T = some (.map K E)) (hz : ∀ w, (zeroValue E).run P w = .ok z w) (hb : w.heap[b]? = some (.map es c)) (hn : es.isEmpty = false) (hc : ∀ w, (Instr.checkKey false 10000 K key).run P w = .ok () w) (hf : ∀ w, (Instr.findKey K key es.toList).run P w = .ok none w) :
    (Instr.lookup T (.map (some b)) key true).run P w = .ok (.tuple #[z, .bool false]) w := by
  simp [Instr.lookup, run_underlying ht, MapKept.run_getObj_map hb, hn, hc, hf, hz, Result.andThen]
end
def keyV (a b : Int) : Value := .agg #[.int .i64 a, .int .i64 b]
def prodE : Array MapEntry := #[⟨keyV 0 0, .float .f64 0, 0⟩, ⟨keyV 0 1, .float .f64 0, 1⟩, ⟨keyV 1 0, .float .f64 0, 2⟩, ⟨keyV 0 2, .float .f64 9221120237041090560, 3⟩, ⟨keyV 2 0, .float .f64 9221120237041090560, 4⟩, ⟨keyV 1 2, .float .f64 9218868437227405312, 5⟩, ⟨keyV 2 1, .float .f64 9218868437227405312, 6⟩, ⟨keyV 2 2, .float .f64 9218868437227405312, 7⟩]
def quoE : Array MapEntry := #[⟨keyV 0 0, .float .f64 9221120237041090560, 0⟩, ⟨keyV 0 1, .float .f64 0, 1⟩, ⟨keyV 1 0, .float .f64 9218868437227405312, 2⟩, ⟨keyV 0 2, .float .f64 0, 3⟩, ⟨keyV 2 0, .float .f64 9218868437227405312, 4⟩, ⟨keyV 1 2, .float .f64 0, 5⟩, ⟨keyV 2 1, .float .f64 9218868437227405312, 6⟩, ⟨keyV 2 2, .float .f64 9221120237041090560, 7⟩]
end Go.Plumb

namespace Go.Plumb
open Go.RowKit
theorem filter_lt {α : Type} {p q : α → Bool} : ∀ {l : List α}, (∀ x ∈ l, q x = true → p x = true) → (∃ x ∈ l, p x = true ∧ q x = false) → (l.filter q).length < (l.filter p).length
  | [], _, ⟨_, h, _⟩ => by cases h
  | a :: l, h, ⟨x, hx, h1, h2⟩ => by
    have hle : ∀ (l : List α), (∀ x ∈ l, q x = true → p x = true) → (l.filter q).length ≤ (l.filter p).length := by
      intro l
      induction l with
      | nil => intro _; exact Nat.le_refl _
      | cons b l ih =>
        intro h
        have := ih (fun x hx => h x (List.mem_cons_of_mem _ hx))
        have hb := h b (List.mem_cons_self ..)
        simp only [List.filter_cons]
        cases hq : q b <;> cases hp : p b <;> simp_all <;> omega
    have hl := hle l (fun x hx => h x (List.mem_cons_of_mem _ hx))
    simp only [List.filter_cons]
    rcases List.mem_cons.1 hx with rfl | hx
    · rw [h1, h2]
      simp
      omega
    · have := filter_lt (l := l) (fun x hx => h x (List.mem_cons_of_mem _ hx)) ⟨x, hx, h1, h2⟩
      have ha := h a (List.mem_cons_self ..)
      cases hq : q a <;> cases hp : p a <;> simp_all <;> omega
/-- How many operations are still out. -/
def outN (n : Nat) (listed : Array Bool) : Nat := ((List.range n).filter fun i => !listed.getD i true).length
theorem getD_set (listed : Array Bool) (i j : Nat) (d : Bool) (hj : j < listed.size) : (listed.setIfInBounds i true).getD j d = if i = j then true else listed.getD j d := by
  by_cases h : i = j
  · subst h
    simp [hj]
  · rw [if_neg h]
    exact getD_set_ne d h
theorem outN_set {n i : Nat} {listed : Array Bool} (hi : i < n) (h : listed.getD i true = false) : outN n (listed.setIfInBounds i true) < outN n listed := by
  have hs : i < listed.size := by
    apply Nat.lt_of_not_le
    intro hle
    simp [Array.getElem?_eq_none hle] at h
  apply filter_lt
  · intro x hx hq
    by_cases hxi : i = x
    · subst hxi
      rw [getD_set _ _ _ _ hs, if_pos rfl] at hq
      cases hq
    · rw [getD_set_ne true hxi] at hq
      exact hq
  · refine ⟨i, List.mem_range.2 hi, by rw [h]; rfl, ?_⟩
    rw [getD_set _ _ _ _ hs, if_pos rfl]
    rfl
section
variable {P : Program} {ops : Array Oper} {Q : Exit → Act → World → Prop} {md : Region.Mode}
theorem wpAny_inv {Inv : Array Bool → Act → World → Prop} (hfin : ∀ listed a w, Inv listed a w → Region.ready md ops listed = [] → Q .normal a w)
    (hstep : ∀ listed a w i, Inv listed a w → i ∈ Region.ready md ops listed → wpOp P ops Q i (fun a' w' => Inv (listed.setIfInBounds i true) a' w') a w) :
    ∀ fuel listed a w, outN ops.size listed ≤ fuel → Inv listed a w → wpAny P md ops Q fuel listed a w := by
  intro fuel
  induction fuel with
  | zero =>
    intro listed a w h hI
    have hr : Region.ready md ops listed = [] := by
      cases hc : Region.ready md ops listed with
      | nil => rfl
      | cons x l =>
        have hx : x ∈ Region.ready md ops listed := by rw [hc]; exact List.mem_cons_self ..
        obtain ⟨h0, o, ho, _⟩ := mem_ready.1 hx
        have hlt : x < ops.size := (Array.getElem?_eq_some_iff.1 ho).1
        have := outN_set hlt h0
        omega
    exact ⟨hr, hfin _ _ _ hI hr⟩
  | succ fuel ih =>
    intro listed a w h hI
    refine ⟨hfin _ _ _ hI, fun i hi => wpOp_mono (fun a w hh => ih _ _ _ ?_ hh) (hstep _ _ _ i hI hi)⟩
    obtain ⟨h0, o, ho, _⟩ := mem_ready.1 hi
    have hlt : i < ops.size := (Array.getElem?_eq_some_iff.1 ho).1
    have := outN_set hlt h0
    omega
theorem all_listed {listed : Array Bool} (hs : listed.size = ops.size) (hops : ∀ (i : Nat) (o : Oper), ops[i]? = some o → ∀ e ∈ o.after, e.on < i) (h : Region.ready md ops listed = []) : ∀ i, i < ops.size → listed.getD i false = true := by
  intro i
  induction i using Nat.strongRecOn with
  | ind i ih =>
    intro hi
    cases hc : listed.getD i false with
    | true => rfl
    | false =>
      exfalso
      have hc' : listed.getD i true = false := by
        rw [← hs] at hi
        simp [hi] at hc ⊢
        exact hc
      have : i ∈ Region.ready md ops listed := mem_ready.2 ⟨hc', ops[i], by simp [hi], fun e he _ => by
        have := hops i ops[i] (by simp [hi]) e he
        exact ih _ this (by omega)⟩
      rw [h] at this
      cases this
variable {i : Nat} {o : Oper} {a : Act} {w w' : World} {K : Act → World → Prop}
theorem wpOp_v {v : Value} (hi : ops[i]? = some o) (hg : o.guard = none) (hr : (execOp a.eval o).run P w = .ok (.value v) w') (h : K (a.put o.dst v) w') : wpOp P ops Q i K a w := by
  unfold wpOp
  simp only [hi]
  rw [if_pos (by unfold Region.wanted; rw [hg])]
  left
  unfold Oper.wp
  rw [hr]
  exact h
theorem wpOp_s (hi : ops[i]? = some o) (hg : o.guard = none) (hr : (execOp a.eval o).run P w = .ok .skip w') (h : K (a.put o.dst undef) w') : wpOp P ops Q i K a w := by
  unfold wpOp
  simp only [hi]
  rw [if_pos (by unfold Region.wanted; rw [hg])]
  left
  unfold Oper.wp
  rw [hr]
  exact h
theorem wpOp_c {f : FuncId} {args : Array Value} (hi : ops[i]? = some o) (hg : o.guard = none) (hr : (execOp a.eval o).run P w = .ok (.enter f args) w') (h : Calls P f args w' fun e w'' => ∃ v, e = .returned v ∧ K (a.put o.dst v) w'') : wpOp P ops Q i K a w := by
  unfold wpOp
  simp only [hi]
  rw [if_pos (by unfold Region.wanted; rw [hg])]
  left
  unfold Oper.wp
  rw [hr]
  refine Calls.mono h fun e w'' he => ?_
  obtain ⟨v, rfl, hK⟩ := he
  exact hK
end
/-- How far a region has come that fills a map: vals: which operation gives which slot which value; ins: which operation lays which entry. -/
structure Fills (n m B : Nat) (W0 : World) (inf : Value) (D : List Deferred) (vals : List (Nat × Nat × Value)) (ins : List (Nat × Int × Int × Nat)) (listed : Array Bool) (a : Act) (w : World) : Prop where
  size : listed.size = n
  tsize : a.tmps.size = m
  dfr : a.defers = D
  inf : a.tmps.getD 1 undef = inf
  val : ∀ p ∈ vals, listed.getD p.1 false = true → a.tmps.getD p.2.1 undef = p.2.2
  no : listed.getD 0 false = false → w = W0
  below : Below B W0 w
  yes : listed.getD 0 false = true → ∃ es c, w.heap[B]? = some (.map es c) ∧ (∀ e ∈ es.toList, ∃ q ∈ ins, listed.getD q.1 false = true ∧ e.key = keyV q.2.1 q.2.2.1 ∧ e.val = .float .f64 q.2.2.2) ∧
    (∀ q ∈ ins, listed.getD q.1 false = true → ∃ e ∈ es.toList, e.key = keyV q.2.1 q.2.2.1 ∧ e.val = .float .f64 q.2.2.2)
  none0 : listed.getD 0 false = false → ∀ q ∈ ins, listed.getD q.1 false = false
section
variable {n m B : Nat} {W0 w : World} {inf : Value} {D : List Deferred} {vals : List (Nat × Nat × Value)} {ins : List (Nat × Int × Int × Nat)} {listed : Array Bool} {a : Act}
theorem act_put_at {a : Act} {d : Nat} (v : Value) (h : d < a.tmps.size) : (a.put (some d) v).tmps.getD d undef = v := by simp [Act.put, h]
theorem act_put_ne {a : Act} {d t : Nat} (v : Value) (h : d ≠ t) : (a.put (some d) v).tmps.getD t undef = a.tmps.getD t undef := by simp [Act.put, Array.getElem?_setIfInBounds_ne h]
theorem Fills.put (h : Fills n m B W0 inf D vals ins listed a w) (i d : Nat) (v : Value) (hi : i < n) (hd : d < m) (hd1 : d ≠ 1) (h0 : i ≠ 0) (hv : ∀ p ∈ vals, (p.1 = i → p.2.1 = d ∧ p.2.2 = v) ∧ (p.1 ≠ i → p.2.1 ≠ d)) (hq : ∀ q ∈ ins, q.1 ≠ i) :
    Fills n m B W0 inf D vals ins (listed.setIfInBounds i true) (a.put (some d) v) w where
  size := by rw [Array.size_setIfInBounds]; exact h.size
  tsize := by simp [Act.put]; exact h.tsize
  dfr := h.dfr
  inf := by rw [act_put_ne v hd1]; exact h.inf
  val := by
    intro p hp hl
    by_cases hpi : p.1 = i
    · obtain ⟨h1, h2⟩ := (hv p hp).1 hpi
      rw [h1, h2]
      exact act_put_at v (by rw [h.tsize]; exact hd)
    · rw [act_put_ne v (fun e => (hv p hp).2 hpi e.symm)]
      rw [getD_set_ne false (fun e => hpi e.symm)] at hl
      exact h.val p hp hl
  no := by
    intro hl
    rw [getD_set_ne false h0] at hl
    exact h.no hl
  below := h.below
  yes := by
    intro hl
    rw [getD_set_ne false h0] at hl
    obtain ⟨es, c, h1, h2, h3⟩ := h.yes hl
    refine ⟨es, c, h1, fun e he => ?_, fun q hqm hl' => ?_⟩
    · obtain ⟨q, hqm, k1, k2⟩ := h2 e he
      exact ⟨q, hqm, by rw [getD_set_ne false (fun e => hq q hqm e.symm)]; exact k1, k2⟩
    · rw [getD_set_ne false (fun e => hq q hqm e.symm)] at hl'
      exact h3 q hqm hl'
  none0 := by
    intro hl q hqm
    rw [getD_set_ne false h0] at hl
    rw [getD_set_ne false (fun e => hq q hqm e.symm)]
    exact h.none0 hl q hqm
theorem Fills.make (h : Fills n m B W0 inf D vals ins listed a w) (hB : W0.heap.size = B) (hl0 : listed.getD 0 false = false) (d : Nat) (v : Value) (hi : 0 < n) (hd : d < m) (hd1 : d ≠ 1) (hv : ∀ p ∈ vals, (p.1 = 0 → p.2.1 = d ∧ p.2.2 = v) ∧ (p.1 ≠ 0 → p.2.1 ≠ d)) (hq : ∀ q ∈ ins, q.1 ≠ 0) :
    Fills n m B W0 inf D vals ins (listed.setIfInBounds 0 true) (a.put (some d) v) (w.alloc (.map #[] 0)) where
  size := by rw [Array.size_setIfInBounds]; exact h.size
  tsize := by simp [Act.put]; exact h.tsize
  dfr := h.dfr
  inf := by rw [act_put_ne v hd1]; exact h.inf
  val := by
    intro p hp hl
    by_cases hpi : p.1 = 0
    · obtain ⟨h1, h2⟩ := (hv p hp).1 hpi
      rw [h1, h2]
      exact act_put_at v (by rw [h.tsize]; exact hd)
    · rw [act_put_ne v (fun e => (hv p hp).2 hpi e.symm)]
      rw [getD_set_ne false (fun e => hpi e.symm)] at hl
      exact h.val p hp hl
  no := by
    intro hl
    rw [getD_set _ _ _ _ (by rw [h.size]; exact hi), if_pos rfl] at hl
    cases hl
  below := by
    obtain rfl := h.no hl0
    subst hB
    exact (Below.refl _ _).alloc (Nat.le_refl _) _
  yes := by
    intro _
    obtain rfl := h.no hl0
    subst hB
    refine ⟨#[], 0, by (show (w.heap.push (Obj.map #[] 0))[w.heap.size]? = _); simp, fun e he => by simp at he, fun q hqm hl' => ?_⟩
    rw [getD_set_ne false (fun e => hq q hqm e.symm), h.none0 hl0 q hqm] at hl'
    cases hl'
  none0 := by
    intro hl
    rw [getD_set _ _ _ _ (by rw [h.size]; exact hi), if_pos rfl] at hl
    cases hl
theorem Fills.lay (h : Fills n m B W0 inf D vals ins listed a w) (i : Nat) (x y : Int) (z : Nat) (hi : i < n) (h0 : i ≠ 0) (hl0 : listed.getD 0 false = true) (hv : ∀ p ∈ vals, p.1 ≠ i) (hq : ∀ q ∈ ins, q.1 = i ↔ q = (i, x, y, z)) (hm : (i, x, y, z) ∈ ins)
    {es : Array MapEntry} {c : Nat} (he : w.heap[B]? = some (.map es c)) (hB : W0.heap.size = B) :
    Fills n m B W0 inf D vals ins (listed.setIfInBounds i true) (a.put none undef) (mset w B (es.push ⟨keyV x y, .float .f64 z, c⟩) (c + 1)) where
  size := by rw [Array.size_setIfInBounds]; exact h.size
  tsize := h.tsize
  dfr := h.dfr
  inf := h.inf
  val := by
    intro p hp hl
    rw [getD_set_ne false (fun e => hv p hp e.symm)] at hl
    exact h.val p hp hl
  no := by
    intro hl
    rw [getD_set_ne false h0, hl0] at hl
    cases hl
  below := Below.mset h.below (Nat.le_refl _) _ _
  yes := by
    intro _
    obtain ⟨es', c', h1, h2, h3⟩ := h.yes hl0
    obtain ⟨rfl, rfl⟩ : es = es' ∧ c = c' := by
      rw [he] at h1
      have := Option.some.inj h1
      injection this with a b
      exact ⟨a, b⟩
    have hlt : B < w.heap.size := by
      apply Nat.lt_of_not_le
      intro hle
      rw [Array.getElem?_eq_none hle] at he
      cases he
    refine ⟨_, _, mset_at hlt _ _, fun e hem => ?_, fun q hqm hl' => ?_⟩
    · rw [Array.toList_push, List.mem_append, List.mem_singleton] at hem
      rcases hem with hem | rfl
      · obtain ⟨q, hqm, k1, k2⟩ := h2 e hem
        refine ⟨q, hqm, ?_, k2⟩
        by_cases hqi : i = q.1
        · rw [← hqi, getD_set _ _ _ _ (by rw [h.size]; exact hi), if_pos rfl]
        · rw [getD_set_ne false hqi]; exact k1
      · exact ⟨_, hm, by rw [getD_set _ _ _ _ (by rw [h.size]; exact hi), if_pos rfl], rfl, rfl⟩
    · by_cases hqi : i = q.1
      · have := (hq q hqm).1 hqi.symm
        subst this
        exact ⟨_, by rw [Array.toList_push]; exact List.mem_append_right _ (List.mem_singleton.2 rfl), rfl, rfl⟩
      · rw [getD_set_ne false hqi] at hl'
        obtain ⟨e, he1, he2⟩ := h3 q hqm hl'
        exact ⟨e, by rw [Array.toList_push]; exact List.mem_append_left _ he1, he2⟩
  none0 := by
    intro hl
    rw [getD_set_ne false h0, hl0] at hl
    cases hl
end
/-- A key that no entry bears. -/
theorem find_none {P : Program} {K : TypeId} {key : Value} : ∀ {l : List MapEntry} (i : Nat), (∀ e ∈ l, ∀ w, (Op.equal K key e.key).run P w = .ok false w) → ∀ w, (Instr.findAsking K key l i).run P w = .ok none w
  | [], _, _, w => by simp [Instr.findAsking]
  | e :: l, i, h, w => by
    have h1 := h e (List.mem_cons_self ..) w
    have h2 := find_none (l := l) (i + 1) (fun e he => h e (List.mem_cons_of_mem _ he)) w
    simp [Instr.findAsking, h1, h2, Result.andThen]
theorem find_some {P : Program} {K : TypeId} {key v : Value} : ∀ {l : List MapEntry} (i : Nat), (∀ e ∈ l, (∀ w, (Op.equal K key e.key).run P w = .ok false w) ∨ (e.val = v ∧ ∀ w, (Op.equal K key e.key).run P w = .ok true w)) → (∃ e ∈ l, ∀ w, (Op.equal K key e.key).run P w = .ok true w) → ∃ j, ∀ w, (Instr.findAsking K key l i).run P w = .ok (some (j, v)) w
  | [], _, _, ⟨_, h, _⟩ => by cases h
  | e :: l, i, h, ⟨x, hx, hxe⟩ => by
    rcases h e (List.mem_cons_self ..) with h1 | ⟨h1, h2⟩
    · have hx' : x ∈ l := by
        rcases List.mem_cons.1 hx with rfl | hx
        · have a := h1 default
          have b := hxe default
          rw [a] at b
          simp at b
        · exact hx
      obtain ⟨j, hj⟩ := find_some (l := l) (i + 1) (fun e he => h e (List.mem_cons_of_mem _ he)) ⟨x, hx', hxe⟩
      exact ⟨j, fun w => by simp [Instr.findAsking, h1, hj, Result.andThen]⟩
    · exact ⟨i, fun w => by simp [Instr.findAsking, h2, h1, Result.andThen]⟩
end Go.Plumb

namespace Go.Plumb
open Go.RowKit
theorem hops_of {ops : Array Oper} (h : ((List.range ops.size).all fun i => ((ops[i]?).map fun o => o.after.all fun e => decide (e.on < i)).getD true) = true) : ∀ (i : Nat) (o : Oper), ops[i]? = some o → ∀ e ∈ o.after, e.on < i := by
  intro i o ho e he
  have hi : i < ops.size := (Array.getElem?_eq_some_iff.1 ho).1
  have h1 := List.all_eq_true.1 h i (List.mem_range.2 hi)
  rw [ho] at h1
  simp only [Option.map_some, Option.getD_some] at h1
  have := Array.all_eq_true_iff_forall_mem.1 h1 e he
  exact of_decide_eq_true this
/-- A table's entries, in whatever order. -/
def TabE (ins : List (Nat × Int × Int × Nat)) (es : Array MapEntry) : Prop :=
  (∀ e ∈ es.toList, ∃ q ∈ ins, e.key = keyV q.2.1 q.2.2.1 ∧ e.val = .float .f64 q.2.2.2) ∧ (∀ q ∈ ins, ∃ e ∈ es.toList, e.key = keyV q.2.1 q.2.2.1 ∧ e.val = .float .f64 q.2.2.2)
theorem findKey_none {P : Program} {K : TypeId} {key : Value} {l : List MapEntry} {d : TypeDesc} (hd : P.underlying K = some d) (hn : ∀ e, Instr.sameNow d key e = none) (h : ∀ e ∈ l, ∀ w, (Op.equal K key e.key).run P w = .ok false w) : ∀ w, (Instr.findKey K key l).run P w = .ok none w := by
  intro w
  have h1 := find_none 0 h w
  cases l with
  | nil => simp [Instr.findKey, run_underlying hd, Instr.findNow]
  | cons e l => simp [Instr.findKey, run_underlying hd, Instr.findNow, hn, h1]
theorem findKey_some {P : Program} {K : TypeId} {key v : Value} {l : List MapEntry} {d : TypeDesc} (hd : P.underlying K = some d) (hn : ∀ e, Instr.sameNow d key e = none) (h : ∀ e ∈ l, (∀ w, (Op.equal K key e.key).run P w = .ok false w) ∨ (e.val = v ∧ ∀ w, (Op.equal K key e.key).run P w = .ok true w)) (hx : ∃ e ∈ l, ∀ w, (Op.equal K key e.key).run P w = .ok true w) : ∃ j, ∀ w, (Instr.findKey K key l).run P w = .ok (some (j, v)) w := by
  obtain ⟨j, hj⟩ := find_some 0 h hx
  refine ⟨j, fun w => ?_⟩
  cases l with
  | nil => obtain ⟨_, h, _⟩ := hx; cases h
  | cons e l => simp [Instr.findKey, run_underlying hd, Instr.findNow, hn, hj]
end Go.Plumb
namespace Go.Proofs.YtjlaadadbpffdaaDoor
open Go.RowKit Go.Plumb
abbrev smallK (x : Int) : Prop := x = 0 ∨ x = 1 ∨ x = 2 ∨ x = 3
theorem key_eq (a b c d : Int) (ha : smallK a) (hb : smallK b) (hc : smallK c) (hd : smallK d) (w : World) : (Op.equal 83 (keyV a b) (keyV c d)).run Tryd.prog w = .ok (a == c && b == d) w := by
  rcases ha with rfl | rfl | rfl | rfl <;> rcases hb with rfl | rfl | rfl | rfl <;> rcases hc with rfl | rfl | rfl | rfl <;> rcases hd with rfl | rfl | rfl | rfl <;> kernel_rfl
theorem key_ok (a b : Int) (w : World) : (Instr.checkKey false 10000 83 (keyV a b)).run Tryd.prog w = .ok () w := by kernel_rfl
theorem key_now (a b : Int) (e : Value) : Instr.sameNow (.array 2 3) (keyV a b) e = none := by cases e <;> rfl
theorem key_free (a b : Int) (ha : smallK a) (hb : smallK b) {l : List MapEntry} (h : ∀ e ∈ l, ∃ c d, e.key = keyV c d ∧ smallK c ∧ smallK d ∧ (a == c && b == d) = false) : ∀ w, (Instr.findKey 83 (keyV a b) l).run Tryd.prog w = .ok none w :=
  findKey_none Tryd.underlying83 (key_now a b) fun e he w => by
    obtain ⟨c, d, h1, hc, hd, h2⟩ := h e he
    rw [h1, key_eq a b c d ha hb hc hd, h2]
noncomputable def prodOps : Array Oper := match Tryd.f39.body with
  | some (.seq _ (.seq _ (.seq (.region _ ops _) _))) => ops
  | _ => #[]
def prodVals (B : Nat) : List (Nat × Nat × Value) := [(0, 3, .map (some B)), (1, 4, keyV 0 0), (3, 5, keyV 0 1), (5, 6, keyV 1 0), (7, 7, keyV 0 2), (8, 8, .float .f64 9221120237041090560), (10, 9, keyV 2 0), (11, 10, .float .f64 9221120237041090560), (13, 11, keyV 1 2), (14, 12, .float .f64 9218868437227405312), (16, 13, keyV 2 1), (17, 14, .float .f64 9218868437227405312), (19, 15, keyV 2 2), (20, 16, .float .f64 9218868437227405312), (22, 17, .map (some B)), (23, 0, .map (some B))]
def prodIns : List (Nat × Int × Int × Nat) := [(2, 0, 0, 0), (4, 0, 1, 0), (6, 1, 0, 0), (9, 0, 2, 9221120237041090560), (12, 2, 0, 9221120237041090560), (15, 1, 2, 9218868437227405312), (18, 2, 1, 9218868437227405312), (21, 2, 2, 9218868437227405312)]
theorem prod_hops : ∀ (i : Nat) (o : Oper), prodOps[i]? = some o → ∀ e ∈ o.after, e.on < i := hops_of (by decide +kernel)
theorem prod_step0 {B : Nat} {W0 : World} {D : List Deferred} {Q : Exit → Act → World → Prop} (hB : W0.heap.size = B) (listed : Array Bool) (a : Act) (w : World) (h : Fills 24 18 B W0 (.float .f64 9218868437227405312) D (prodVals B) prodIns listed a w) (h0 : listed.getD 0 true = false) (o : Oper) (ho : prodOps[0]? = some o) (hdep : ∀ e ∈ o.after, Region.binds .any e = true → listed.getD e.on false = true) :
    wpOp Tryd.prog prodOps Q 0 (fun a' w' => Fills 24 18 B W0 (.float .f64 9218868437227405312) D (prodVals B) prodIns (listed.setIfInBounds 0 true) a' w') a w := by
  have e := ho
  simp only [prodOps, Tryd.f39, List.getElem?_toArray, List.getElem?_cons_succ, List.getElem?_cons_zero, Option.some.injEq] at e
  subst e
  have hl0 : listed.getD 0 false = false := by
    have hs := h.size
    simp [hs] at h0 ⊢
    exact h0
  have hW := h.no hl0
  refine wpOp_v (v := .map (some B)) (w' := w.alloc (.map #[] 0)) ho rfl ?_ (h.make hB hl0 3 _ (by decide) (by decide) (by decide) (by intro p hp; simp [prodVals] at hp; rcases hp with rfl | rfl | rfl | rfl | rfl | rfl | rfl | rfl | rfl | rfl | rfl | rfl | rfl | rfl | rfl | rfl <;> simp) (by intro q hq; simp [prodIns] at hq; rcases hq with rfl | rfl | rfl | rfl | rfl | rfl | rfl | rfl <;> simp))
  have hr := run_makeMap_plain (P := Tryd.prog) w 54
  rw [hW, hB] at hr
  rw [hW]
  simp [execOp, hr, Result.andThen]
theorem prod_step1 {B : Nat} {W0 : World} {D : List Deferred} {Q : Exit → Act → World → Prop} (hB : W0.heap.size = B) (listed : Array Bool) (a : Act) (w : World) (h : Fills 24 18 B W0 (.float .f64 9218868437227405312) D (prodVals B) prodIns listed a w) (h0 : listed.getD 1 true = false) (o : Oper) (ho : prodOps[1]? = some o) (hdep : ∀ e ∈ o.after, Region.binds .any e = true → listed.getD e.on false = true) :
    wpOp Tryd.prog prodOps Q 1 (fun a' w' => Fills 24 18 B W0 (.float .f64 9218868437227405312) D (prodVals B) prodIns (listed.setIfInBounds 1 true) a' w') a w := by
  have e := ho
  simp only [prodOps, Tryd.f39, List.getElem?_toArray, List.getElem?_cons_succ, List.getElem?_cons_zero, Option.some.injEq] at e
  subst e
  exact wpOp_v (v := keyV 0 0) ho rfl (by kernel_rfl) (h.put 1 4 _ (by decide) (by decide) (by decide) (by decide) (by intro p hp; simp [prodVals] at hp; rcases hp with rfl | rfl | rfl | rfl | rfl | rfl | rfl | rfl | rfl | rfl | rfl | rfl | rfl | rfl | rfl | rfl <;> simp) (by intro q hq; simp [prodIns] at hq; rcases hq with rfl | rfl | rfl | rfl | rfl | rfl | rfl | rfl <;> simp))
theorem prod_step2 {B : Nat} {W0 : World} {D : List Deferred} {Q : Exit → Act → World → Prop} (hB : W0.heap.size = B) (listed : Array Bool) (a : Act) (w : World) (h : Fills 24 18 B W0 (.float .f64 9218868437227405312) D (prodVals B) prodIns listed a w) (h0 : listed.getD 2 true = false) (o : Oper) (ho : prodOps[2]? = some o) (hdep : ∀ e ∈ o.after, Region.binds .any e = true → listed.getD e.on false = true) :
    wpOp Tryd.prog prodOps Q 2 (fun a' w' => Fills 24 18 B W0 (.float .f64 9218868437227405312) D (prodVals B) prodIns (listed.setIfInBounds 2 true) a' w') a w := by
  have e := ho
  simp only [prodOps, Tryd.f39, List.getElem?_toArray, List.getElem?_cons_succ, List.getElem?_cons_zero, Option.some.injEq] at e
  subst e
  have d0 := hdep { on := 0, ground := .data } (by simp) rfl
  have d1 := hdep { on := 1, ground := .data } (by simp) rfl
  have v0 := h.val (0, 3, .map (some B)) (by simp [prodVals]) d0
  have v1 := h.val (1, 4, keyV 0 0) (by simp [prodVals]) d1
  obtain ⟨es, c, he, hes, _⟩ := h.yes d0
  have hl : listed.getD 2 false = false := by
    have hs := h.size
    simp [hs] at h0 ⊢
    exact h0
  have hf : ∀ w, (Instr.findKey 83 (keyV 0 0) es.toList).run Tryd.prog w = .ok none w := key_free 0 0 (by decide) (by decide) (fun e hem => by
    obtain ⟨q, hqm, k1, k2, _⟩ := hes e hem
    refine ⟨q.2.1, q.2.2.1, k2, ?_⟩
    simp [prodIns] at hqm
    rcases hqm with rfl | rfl | rfl | rfl | rfl | rfl | rfl | rfl <;> first | decide | (exfalso; rw [hl] at k1; cases k1))
  have hr := run_put (w := w) (val := .float .f64 0) Tryd.underlying54 he (key_ok 0 0) hf
  refine wpOp_s (w' := mset w B (es.push ⟨keyV 0 0, .float .f64 0, c⟩) (c + 1)) ho rfl ?_ (h.lay 2 0 0 0 (by decide) (by decide) d0 (by intro p hp; simp [prodVals] at hp; rcases hp with rfl | rfl | rfl | rfl | rfl | rfl | rfl | rfl | rfl | rfl | rfl | rfl | rfl | rfl | rfl | rfl <;> simp) (by intro q hq; simp [prodIns] at hq; rcases hq with rfl | rfl | rfl | rfl | rfl | rfl | rfl | rfl <;> simp) (by simp [prodIns]) he hB)
  simp only [execOp, Act.eval, v0, v1, Sem.run_bind, hr]
  rfl
theorem prod_step3 {B : Nat} {W0 : World} {D : List Deferred} {Q : Exit → Act → World → Prop} (hB : W0.heap.size = B) (listed : Array Bool) (a : Act) (w : World) (h : Fills 24 18 B W0 (.float .f64 9218868437227405312) D (prodVals B) prodIns listed a w) (h0 : listed.getD 3 true = false) (o : Oper) (ho : prodOps[3]? = some o) (hdep : ∀ e ∈ o.after, Region.binds .any e = true → listed.getD e.on false = true) :
    wpOp Tryd.prog prodOps Q 3 (fun a' w' => Fills 24 18 B W0 (.float .f64 9218868437227405312) D (prodVals B) prodIns (listed.setIfInBounds 3 true) a' w') a w := by
  have e := ho
  simp only [prodOps, Tryd.f39, List.getElem?_toArray, List.getElem?_cons_succ, List.getElem?_cons_zero, Option.some.injEq] at e
  subst e
  exact wpOp_v (v := keyV 0 1) ho rfl (by kernel_rfl) (h.put 3 5 _ (by decide) (by decide) (by decide) (by decide) (by intro p hp; simp [prodVals] at hp; rcases hp with rfl | rfl | rfl | rfl | rfl | rfl | rfl | rfl | rfl | rfl | rfl | rfl | rfl | rfl | rfl | rfl <;> simp) (by intro q hq; simp [prodIns] at hq; rcases hq with rfl | rfl | rfl | rfl | rfl | rfl | rfl | rfl <;> simp))
theorem prod_step4 {B : Nat} {W0 : World} {D : List Deferred} {Q : Exit → Act → World → Prop} (hB : W0.heap.size = B) (listed : Array Bool) (a : Act) (w : World) (h : Fills 24 18 B W0 (.float .f64 9218868437227405312) D (prodVals B) prodIns listed a w) (h0 : listed.getD 4 true = false) (o : Oper) (ho : prodOps[4]? = some o) (hdep : ∀ e ∈ o.after, Region.binds .any e = true → listed.getD e.on false = true) :
    wpOp Tryd.prog prodOps Q 4 (fun a' w' => Fills 24 18 B W0 (.float .f64 9218868437227405312) D (prodVals B) prodIns (listed.setIfInBounds 4 true) a' w') a w := by
  have e := ho
  simp only [prodOps, Tryd.f39, List.getElem?_toArray, List.getElem?_cons_succ, List.getElem?_cons_zero, Option.some.injEq] at e
  subst e
  have d0 := hdep { on := 0, ground := .data } (by simp) rfl
  have d1 := hdep { on := 3, ground := .data } (by simp) rfl
  have v0 := h.val (0, 3, .map (some B)) (by simp [prodVals]) d0
  have v1 := h.val (3, 5, keyV 0 1) (by simp [prodVals]) d1
  obtain ⟨es, c, he, hes, _⟩ := h.yes d0
  have hl : listed.getD 4 false = false := by
    have hs := h.size
    simp [hs] at h0 ⊢
    exact h0
  have hf : ∀ w, (Instr.findKey 83 (keyV 0 1) es.toList).run Tryd.prog w = .ok none w := key_free 0 1 (by decide) (by decide) (fun e hem => by
    obtain ⟨q, hqm, k1, k2, _⟩ := hes e hem
    refine ⟨q.2.1, q.2.2.1, k2, ?_⟩
    simp [prodIns] at hqm
    rcases hqm with rfl | rfl | rfl | rfl | rfl | rfl | rfl | rfl <;> first | decide | (exfalso; rw [hl] at k1; cases k1))
  have hr := run_put (w := w) (val := .float .f64 0) Tryd.underlying54 he (key_ok 0 1) hf
  refine wpOp_s (w' := mset w B (es.push ⟨keyV 0 1, .float .f64 0, c⟩) (c + 1)) ho rfl ?_ (h.lay 4 0 1 0 (by decide) (by decide) d0 (by intro p hp; simp [prodVals] at hp; rcases hp with rfl | rfl | rfl | rfl | rfl | rfl | rfl | rfl | rfl | rfl | rfl | rfl | rfl | rfl | rfl | rfl <;> simp) (by intro q hq; simp [prodIns] at hq; rcases hq with rfl | rfl | rfl | rfl | rfl | rfl | rfl | rfl <;> simp) (by simp [prodIns]) he hB)
  simp only [execOp, Act.eval, v0, v1, Sem.run_bind, hr]
  rfl
theorem prod_step5 {B : Nat} {W0 : World} {D : List Deferred} {Q : Exit → Act → World → Prop} (hB : W0.heap.size = B) (listed : Array Bool) (a : Act) (w : World) (h : Fills 24 18 B W0 (.float .f64 9218868437227405312) D (prodVals B) prodIns listed a w) (h0 : listed.getD 5 true = false) (o : Oper) (ho : prodOps[5]? = some o) (hdep : ∀ e ∈ o.after, Region.binds .any e = true → listed.getD e.on false = true) :
    wpOp Tryd.prog prodOps Q 5 (fun a' w' => Fills 24 18 B W0 (.float .f64 9218868437227405312) D (prodVals B) prodIns (listed.setIfInBounds 5 true) a' w') a w := by
  have e := ho
  simp only [prodOps, Tryd.f39, List.getElem?_toArray, List.getElem?_cons_succ, List.getElem?_cons_zero, Option.some.injEq] at e
  subst e
  exact wpOp_v (v := keyV 1 0) ho rfl (by kernel_rfl) (h.put 5 6 _ (by decide) (by decide) (by decide) (by decide) (by intro p hp; simp [prodVals] at hp; rcases hp with rfl | rfl | rfl | rfl | rfl | rfl | rfl | rfl | rfl | rfl | rfl | rfl | rfl | rfl | rfl | rfl <;> simp) (by intro q hq; simp [prodIns] at hq; rcases hq with rfl | rfl | rfl | rfl | rfl | rfl | rfl | rfl <;> simp))
theorem prod_step6 {B : Nat} {W0 : World} {D : List Deferred} {Q : Exit → Act → World → Prop} (hB : W0.heap.size = B) (listed : Array Bool) (a : Act) (w : World) (h : Fills 24 18 B W0 (.float .f64 9218868437227405312) D (prodVals B) prodIns listed a w) (h0 : listed.getD 6 true = false) (o : Oper) (ho : prodOps[6]? = some o) (hdep : ∀ e ∈ o.after, Region.binds .any e = true → listed.getD e.on false = true) :
    wpOp Tryd.prog prodOps Q 6 (fun a' w' => Fills 24 18 B W0 (.float .f64 9218868437227405312) D (prodVals B) prodIns (listed.setIfInBounds 6 true) a' w') a w := by
  have e := ho
  simp only [prodOps, Tryd.f39, List.getElem?_toArray, List.getElem?_cons_succ, List.getElem?_cons_zero, Option.some.injEq] at e
  subst e
  have d0 := hdep { on := 0, ground := .data } (by simp) rfl
  have d1 := hdep { on := 5, ground := .data } (by simp) rfl
  have v0 := h.val (0, 3, .map (some B)) (by simp [prodVals]) d0
  have v1 := h.val (5, 6, keyV 1 0) (by simp [prodVals]) d1
  obtain ⟨es, c, he, hes, _⟩ := h.yes d0
  have hl : listed.getD 6 false = false := by
    have hs := h.size
    simp [hs] at h0 ⊢
    exact h0
  have hf : ∀ w, (Instr.findKey 83 (keyV 1 0) es.toList).run Tryd.prog w = .ok none w := key_free 1 0 (by decide) (by decide) (fun e hem => by
    obtain ⟨q, hqm, k1, k2, _⟩ := hes e hem
    refine ⟨q.2.1, q.2.2.1, k2, ?_⟩
    simp [prodIns] at hqm
    rcases hqm with rfl | rfl | rfl | rfl | rfl | rfl | rfl | rfl <;> first | decide | (exfalso; rw [hl] at k1; cases k1))
  have hr := run_put (w := w) (val := .float .f64 0) Tryd.underlying54 he (key_ok 1 0) hf
  refine wpOp_s (w' := mset w B (es.push ⟨keyV 1 0, .float .f64 0, c⟩) (c + 1)) ho rfl ?_ (h.lay 6 1 0 0 (by decide) (by decide) d0 (by intro p hp; simp [prodVals] at hp; rcases hp with rfl | rfl | rfl | rfl | rfl | rfl | rfl | rfl | rfl | rfl | rfl | rfl | rfl | rfl | rfl | rfl <;> simp) (by intro q hq; simp [prodIns] at hq; rcases hq with rfl | rfl | rfl | rfl | rfl | rfl | rfl | rfl <;> simp) (by simp [prodIns]) he hB)
  simp only [execOp, Act.eval, v0, v1, Sem.run_bind, hr]
  rfl
theorem prod_step7 {B : Nat} {W0 : World} {D : List Deferred} {Q : Exit → Act → World → Prop} (hB : W0.heap.size = B) (listed : Array Bool) (a : Act) (w : World) (h : Fills 24 18 B W0 (.float .f64 9218868437227405312) D (prodVals B) prodIns listed a w) (h0 : listed.getD 7 true = false) (o : Oper) (ho : prodOps[7]? = some o) (hdep : ∀ e ∈ o.after, Region.binds .any e = true → listed.getD e.on false = true) :
    wpOp Tryd.prog prodOps Q 7 (fun a' w' => Fills 24 18 B W0 (.float .f64 9218868437227405312) D (prodVals B) prodIns (listed.setIfInBounds 7 true) a' w') a w := by
  have e := ho
  simp only [prodOps, Tryd.f39, List.getElem?_toArray, List.getElem?_cons_succ, List.getElem?_cons_zero, Option.some.injEq] at e
  subst e
  exact wpOp_v (v := keyV 0 2) ho rfl (by kernel_rfl) (h.put 7 7 _ (by decide) (by decide) (by decide) (by decide) (by intro p hp; simp [prodVals] at hp; rcases hp with rfl | rfl | rfl | rfl | rfl | rfl | rfl | rfl | rfl | rfl | rfl | rfl | rfl | rfl | rfl | rfl <;> simp) (by intro q hq; simp [prodIns] at hq; rcases hq with rfl | rfl | rfl | rfl | rfl | rfl | rfl | rfl <;> simp))
theorem prod_step8 {B : Nat} {W0 : World} {D : List Deferred} {Q : Exit → Act → World → Prop} (hB : W0.heap.size = B) (listed : Array Bool) (a : Act) (w : World) (h : Fills 24 18 B W0 (.float .f64 9218868437227405312) D (prodVals B) prodIns listed a w) (h0 : listed.getD 8 true = false) (o : Oper) (ho : prodOps[8]? = some o) (hdep : ∀ e ∈ o.after, Region.binds .any e = true → listed.getD e.on false = true) :
    wpOp Tryd.prog prodOps Q 8 (fun a' w' => Fills 24 18 B W0 (.float .f64 9218868437227405312) D (prodVals B) prodIns (listed.setIfInBounds 8 true) a' w') a w := by
  have e := ho
  simp only [prodOps, Tryd.f39, List.getElem?_toArray, List.getElem?_cons_succ, List.getElem?_cons_zero, Option.some.injEq] at e
  subst e
  refine wpOp_c (f := 31) (args := #[]) (w' := w) ho rfl (by kernel_rfl) ?_
  refine (snan_any _).mono ?_
  rintro z w' ⟨rfl, rfl⟩
  exact ⟨.float .f64 9221120237041090560, rfl, h.put 8 8 _ (by decide) (by decide) (by decide) (by decide) (by intro p hp; simp [prodVals] at hp; rcases hp with rfl | rfl | rfl | rfl | rfl | rfl | rfl | rfl | rfl | rfl | rfl | rfl | rfl | rfl | rfl | rfl <;> simp) (by intro q hq; simp [prodIns] at hq; rcases hq with rfl | rfl | rfl | rfl | rfl | rfl | rfl | rfl <;> simp)⟩
theorem prod_step9 {B : Nat} {W0 : World} {D : List Deferred} {Q : Exit → Act → World → Prop} (hB : W0.heap.size = B) (listed : Array Bool) (a : Act) (w : World) (h : Fills 24 18 B W0 (.float .f64 9218868437227405312) D (prodVals B) prodIns listed a w) (h0 : listed.getD 9 true = false) (o : Oper) (ho : prodOps[9]? = some o) (hdep : ∀ e ∈ o.after, Region.binds .any e = true → listed.getD e.on false = true) :
    wpOp Tryd.prog prodOps Q 9 (fun a' w' => Fills 24 18 B W0 (.float .f64 9218868437227405312) D (prodVals B) prodIns (listed.setIfInBounds 9 true) a' w') a w := by
  have e := ho
  simp only [prodOps, Tryd.f39, List.getElem?_toArray, List.getElem?_cons_succ, List.getElem?_cons_zero, Option.some.injEq] at e
  subst e
  have d0 := hdep { on := 0, ground := .data } (by simp) rfl
  have d1 := hdep { on := 7, ground := .data } (by simp) rfl
  have v0 := h.val (0, 3, .map (some B)) (by simp [prodVals]) d0
  have v1 := h.val (7, 7, keyV 0 2) (by simp [prodVals]) d1
  have d2 := hdep { on := 8, ground := .data } (by simp) rfl
  have v2 := h.val (8, 8, .float .f64 9221120237041090560) (by simp [prodVals]) d2
  obtain ⟨es, c, he, hes, _⟩ := h.yes d0
  have hl : listed.getD 9 false = false := by
    have hs := h.size
    simp [hs] at h0 ⊢
    exact h0
  have hf : ∀ w, (Instr.findKey 83 (keyV 0 2) es.toList).run Tryd.prog w = .ok none w := key_free 0 2 (by decide) (by decide) (fun e hem => by
    obtain ⟨q, hqm, k1, k2, _⟩ := hes e hem
    refine ⟨q.2.1, q.2.2.1, k2, ?_⟩
    simp [prodIns] at hqm
    rcases hqm with rfl | rfl | rfl | rfl | rfl | rfl | rfl | rfl <;> first | decide | (exfalso; rw [hl] at k1; cases k1))
  have hr := run_put (w := w) (val := .float .f64 9221120237041090560) Tryd.underlying54 he (key_ok 0 2) hf
  refine wpOp_s (w' := mset w B (es.push ⟨keyV 0 2, .float .f64 9221120237041090560, c⟩) (c + 1)) ho rfl ?_ (h.lay 9 0 2 9221120237041090560 (by decide) (by decide) d0 (by intro p hp; simp [prodVals] at hp; rcases hp with rfl | rfl | rfl | rfl | rfl | rfl | rfl | rfl | rfl | rfl | rfl | rfl | rfl | rfl | rfl | rfl <;> simp) (by intro q hq; simp [prodIns] at hq; rcases hq with rfl | rfl | rfl | rfl | rfl | rfl | rfl | rfl <;> simp) (by simp [prodIns]) he hB)
  simp only [execOp, Act.eval, v0, v1, v2, Sem.run_bind, hr]
  rfl
theorem prod_step10 {B : Nat} {W0 : World} {D : List Deferred} {Q : Exit → Act → World → Prop} (hB : W0.heap.size = B) (listed : Array Bool) (a : Act) (w : World) (h : Fills 24 18 B W0 (.float .f64 9218868437227405312) D (prodVals B) prodIns listed a w) (h0 : listed.getD 10 true = false) (o : Oper) (ho : prodOps[10]? = some o) (hdep : ∀ e ∈ o.after, Region.binds .any e = true → listed.getD e.on false = true) :
    wpOp Tryd.prog prodOps Q 10 (fun a' w' => Fills 24 18 B W0 (.float .f64 9218868437227405312) D (prodVals B) prodIns (listed.setIfInBounds 10 true) a' w') a w := by
  have e := ho
  simp only [prodOps, Tryd.f39, List.getElem?_toArray, List.getElem?_cons_succ, List.getElem?_cons_zero, Option.some.injEq] at e
  subst e
  exact wpOp_v (v := keyV 2 0) ho rfl (by kernel_rfl) (h.put 10 9 _ (by decide) (by decide) (by decide) (by decide) (by intro p hp; simp [prodVals] at hp; rcases hp with rfl | rfl | rfl | rfl | rfl | rfl | rfl | rfl | rfl | rfl | rfl | rfl | rfl | rfl | rfl | rfl <;> simp) (by intro q hq; simp [prodIns] at hq; rcases hq with rfl | rfl | rfl | rfl | rfl | rfl | rfl | rfl <;> simp))
theorem prod_step11 {B : Nat} {W0 : World} {D : List Deferred} {Q : Exit → Act → World → Prop} (hB : W0.heap.size = B) (listed : Array Bool) (a : Act) (w : World) (h : Fills 24 18 B W0 (.float .f64 9218868437227405312) D (prodVals B) prodIns listed a w) (h0 : listed.getD 11 true = false) (o : Oper) (ho : prodOps[11]? = some o) (hdep : ∀ e ∈ o.after, Region.binds .any e = true → listed.getD e.on false = true) :
    wpOp Tryd.prog prodOps Q 11 (fun a' w' => Fills 24 18 B W0 (.float .f64 9218868437227405312) D (prodVals B) prodIns (listed.setIfInBounds 11 true) a' w') a w := by
  have e := ho
  simp only [prodOps, Tryd.f39, List.getElem?_toArray, List.getElem?_cons_succ, List.getElem?_cons_zero, Option.some.injEq] at e
  subst e
  refine wpOp_c (f := 31) (args := #[]) (w' := w) ho rfl (by kernel_rfl) ?_
  refine (snan_any _).mono ?_
  rintro z w' ⟨rfl, rfl⟩
  exact ⟨.float .f64 9221120237041090560, rfl, h.put 11 10 _ (by decide) (by decide) (by decide) (by decide) (by intro p hp; simp [prodVals] at hp; rcases hp with rfl | rfl | rfl | rfl | rfl | rfl | rfl | rfl | rfl | rfl | rfl | rfl | rfl | rfl | rfl | rfl <;> simp) (by intro q hq; simp [prodIns] at hq; rcases hq with rfl | rfl | rfl | rfl | rfl | rfl | rfl | rfl <;> simp)⟩
theorem prod_step12 {B : Nat} {W0 : World} {D : List Deferred} {Q : Exit → Act → World → Prop} (hB : W0.heap.size = B) (listed : Array Bool) (a : Act) (w : World) (h : Fills 24 18 B W0 (.float .f64 9218868437227405312) D (prodVals B) prodIns listed a w) (h0 : listed.getD 12 true = false) (o : Oper) (ho : prodOps[12]? = some o) (hdep : ∀ e ∈ o.after, Region.binds .any e = true → listed.getD e.on false = true) :
    wpOp Tryd.prog prodOps Q 12 (fun a' w' => Fills 24 18 B W0 (.float .f64 9218868437227405312) D (prodVals B) prodIns (listed.setIfInBounds 12 true) a' w') a w := by
  have e := ho
  simp only [prodOps, Tryd.f39, List.getElem?_toArray, List.getElem?_cons_succ, List.getElem?_cons_zero, Option.some.injEq] at e
  subst e
  have d0 := hdep { on := 0, ground := .data } (by simp) rfl
  have d1 := hdep { on := 10, ground := .data } (by simp) rfl
  have v0 := h.val (0, 3, .map (some B)) (by simp [prodVals]) d0
  have v1 := h.val (10, 9, keyV 2 0) (by simp [prodVals]) d1
  have d2 := hdep { on := 11, ground := .data } (by simp) rfl
  have v2 := h.val (11, 10, .float .f64 9221120237041090560) (by simp [prodVals]) d2
  obtain ⟨es, c, he, hes, _⟩ := h.yes d0
  have hl : listed.getD 12 false = false := by
    have hs := h.size
    simp [hs] at h0 ⊢
    exact h0
  have hf : ∀ w, (Instr.findKey 83 (keyV 2 0) es.toList).run Tryd.prog w = .ok none w := key_free 2 0 (by decide) (by decide) (fun e hem => by
    obtain ⟨q, hqm, k1, k2, _⟩ := hes e hem
    refine ⟨q.2.1, q.2.2.1, k2, ?_⟩
    simp [prodIns] at hqm
    rcases hqm with rfl | rfl | rfl | rfl | rfl | rfl | rfl | rfl <;> first | decide | (exfalso; rw [hl] at k1; cases k1))
  have hr := run_put (w := w) (val := .float .f64 9221120237041090560) Tryd.underlying54 he (key_ok 2 0) hf
  refine wpOp_s (w' := mset w B (es.push ⟨keyV 2 0, .float .f64 9221120237041090560, c⟩) (c + 1)) ho rfl ?_ (h.lay 12 2 0 9221120237041090560 (by decide) (by decide) d0 (by intro p hp; simp [prodVals] at hp; rcases hp with rfl | rfl | rfl | rfl | rfl | rfl | rfl | rfl | rfl | rfl | rfl | rfl | rfl | rfl | rfl | rfl <;> simp) (by intro q hq; simp [prodIns] at hq; rcases hq with rfl | rfl | rfl | rfl | rfl | rfl | rfl | rfl <;> simp) (by simp [prodIns]) he hB)
  simp only [execOp, Act.eval, v0, v1, v2, Sem.run_bind, hr]
  rfl
theorem prod_step13 {B : Nat} {W0 : World} {D : List Deferred} {Q : Exit → Act → World → Prop} (hB : W0.heap.size = B) (listed : Array Bool) (a : Act) (w : World) (h : Fills 24 18 B W0 (.float .f64 9218868437227405312) D (prodVals B) prodIns listed a w) (h0 : listed.getD 13 true = false) (o : Oper) (ho : prodOps[13]? = some o) (hdep : ∀ e ∈ o.after, Region.binds .any e = true → listed.getD e.on false = true) :
    wpOp Tryd.prog prodOps Q 13 (fun a' w' => Fills 24 18 B W0 (.float .f64 9218868437227405312) D (prodVals B) prodIns (listed.setIfInBounds 13 true) a' w') a w := by
  have e := ho
  simp only [prodOps, Tryd.f39, List.getElem?_toArray, List.getElem?_cons_succ, List.getElem?_cons_zero, Option.some.injEq] at e
  subst e
  exact wpOp_v (v := keyV 1 2) ho rfl (by kernel_rfl) (h.put 13 11 _ (by decide) (by decide) (by decide) (by decide) (by intro p hp; simp [prodVals] at hp; rcases hp with rfl | rfl | rfl | rfl | rfl | rfl | rfl | rfl | rfl | rfl | rfl | rfl | rfl | rfl | rfl | rfl <;> simp) (by intro q hq; simp [prodIns] at hq; rcases hq with rfl | rfl | rfl | rfl | rfl | rfl | rfl | rfl <;> simp))
theorem prod_step14 {B : Nat} {W0 : World} {D : List Deferred} {Q : Exit → Act → World → Prop} (hB : W0.heap.size = B) (listed : Array Bool) (a : Act) (w : World) (h : Fills 24 18 B W0 (.float .f64 9218868437227405312) D (prodVals B) prodIns listed a w) (h0 : listed.getD 14 true = false) (o : Oper) (ho : prodOps[14]? = some o) (hdep : ∀ e ∈ o.after, Region.binds .any e = true → listed.getD e.on false = true) :
    wpOp Tryd.prog prodOps Q 14 (fun a' w' => Fills 24 18 B W0 (.float .f64 9218868437227405312) D (prodVals B) prodIns (listed.setIfInBounds 14 true) a' w') a w := by
  have e := ho
  simp only [prodOps, Tryd.f39, List.getElem?_toArray, List.getElem?_cons_succ, List.getElem?_cons_zero, Option.some.injEq] at e
  subst e
  exact wpOp_v (v := .float .f64 9218868437227405312) ho rfl (by rw [← h.inf]; rfl) (h.put 14 12 _ (by decide) (by decide) (by decide) (by decide) (by intro p hp; simp [prodVals] at hp; rcases hp with rfl | rfl | rfl | rfl | rfl | rfl | rfl | rfl | rfl | rfl | rfl | rfl | rfl | rfl | rfl | rfl <;> simp) (by intro q hq; simp [prodIns] at hq; rcases hq with rfl | rfl | rfl | rfl | rfl | rfl | rfl | rfl <;> simp))
theorem prod_step15 {B : Nat} {W0 : World} {D : List Deferred} {Q : Exit → Act → World → Prop} (hB : W0.heap.size = B) (listed : Array Bool) (a : Act) (w : World) (h : Fills 24 18 B W0 (.float .f64 9218868437227405312) D (prodVals B) prodIns listed a w) (h0 : listed.getD 15 true = false) (o : Oper) (ho : prodOps[15]? = some o) (hdep : ∀ e ∈ o.after, Region.binds .any e = true → listed.getD e.on false = true) :
    wpOp Tryd.prog prodOps Q 15 (fun a' w' => Fills 24 18 B W0 (.float .f64 9218868437227405312) D (prodVals B) prodIns (listed.setIfInBounds 15 true) a' w') a w := by
  have e := ho
  simp only [prodOps, Tryd.f39, List.getElem?_toArray, List.getElem?_cons_succ, List.getElem?_cons_zero, Option.some.injEq] at e
  subst e
  have d0 := hdep { on := 0, ground := .data } (by simp) rfl
  have d1 := hdep { on := 13, ground := .data } (by simp) rfl
  have v0 := h.val (0, 3, .map (some B)) (by simp [prodVals]) d0
  have v1 := h.val (13, 11, keyV 1 2) (by simp [prodVals]) d1
  have d2 := hdep { on := 14, ground := .data } (by simp) rfl
  have v2 := h.val (14, 12, .float .f64 9218868437227405312) (by simp [prodVals]) d2
  obtain ⟨es, c, he, hes, _⟩ := h.yes d0
  have hl : listed.getD 15 false = false := by
    have hs := h.size
    simp [hs] at h0 ⊢
    exact h0
  have hf : ∀ w, (Instr.findKey 83 (keyV 1 2) es.toList).run Tryd.prog w = .ok none w := key_free 1 2 (by decide) (by decide) (fun e hem => by
    obtain ⟨q, hqm, k1, k2, _⟩ := hes e hem
    refine ⟨q.2.1, q.2.2.1, k2, ?_⟩
    simp [prodIns] at hqm
    rcases hqm with rfl | rfl | rfl | rfl | rfl | rfl | rfl | rfl <;> first | decide | (exfalso; rw [hl] at k1; cases k1))
  have hr := run_put (w := w) (val := .float .f64 9218868437227405312) Tryd.underlying54 he (key_ok 1 2) hf
  refine wpOp_s (w' := mset w B (es.push ⟨keyV 1 2, .float .f64 9218868437227405312, c⟩) (c + 1)) ho rfl ?_ (h.lay 15 1 2 9218868437227405312 (by decide) (by decide) d0 (by intro p hp; simp [prodVals] at hp; rcases hp with rfl | rfl | rfl | rfl | rfl | rfl | rfl | rfl | rfl | rfl | rfl | rfl | rfl | rfl | rfl | rfl <;> simp) (by intro q hq; simp [prodIns] at hq; rcases hq with rfl | rfl | rfl | rfl | rfl | rfl | rfl | rfl <;> simp) (by simp [prodIns]) he hB)
  simp only [execOp, Act.eval, v0, v1, v2, Sem.run_bind, hr]
  rfl
theorem prod_step16 {B : Nat} {W0 : World} {D : List Deferred} {Q : Exit → Act → World → Prop} (hB : W0.heap.size = B) (listed : Array Bool) (a : Act) (w : World) (h : Fills 24 18 B W0 (.float .f64 9218868437227405312) D (prodVals B) prodIns listed a w) (h0 : listed.getD 16 true = false) (o : Oper) (ho : prodOps[16]? = some o) (hdep : ∀ e ∈ o.after, Region.binds .any e = true → listed.getD e.on false = true) :
    wpOp Tryd.prog prodOps Q 16 (fun a' w' => Fills 24 18 B W0 (.float .f64 9218868437227405312) D (prodVals B) prodIns (listed.setIfInBounds 16 true) a' w') a w := by
  have e := ho
  simp only [prodOps, Tryd.f39, List.getElem?_toArray, List.getElem?_cons_succ, List.getElem?_cons_zero, Option.some.injEq] at e
  subst e
  exact wpOp_v (v := keyV 2 1) ho rfl (by kernel_rfl) (h.put 16 13 _ (by decide) (by decide) (by decide) (by decide) (by intro p hp; simp [prodVals] at hp; rcases hp with rfl | rfl | rfl | rfl | rfl | rfl | rfl | rfl | rfl | rfl | rfl | rfl | rfl | rfl | rfl | rfl <;> simp) (by intro q hq; simp [prodIns] at hq; rcases hq with rfl | rfl | rfl | rfl | rfl | rfl | rfl | rfl <;> simp))
theorem prod_step17 {B : Nat} {W0 : World} {D : List Deferred} {Q : Exit → Act → World → Prop} (hB : W0.heap.size = B) (listed : Array Bool) (a : Act) (w : World) (h : Fills 24 18 B W0 (.float .f64 9218868437227405312) D (prodVals B) prodIns listed a w) (h0 : listed.getD 17 true = false) (o : Oper) (ho : prodOps[17]? = some o) (hdep : ∀ e ∈ o.after, Region.binds .any e = true → listed.getD e.on false = true) :
    wpOp Tryd.prog prodOps Q 17 (fun a' w' => Fills 24 18 B W0 (.float .f64 9218868437227405312) D (prodVals B) prodIns (listed.setIfInBounds 17 true) a' w') a w := by
  have e := ho
  simp only [prodOps, Tryd.f39, List.getElem?_toArray, List.getElem?_cons_succ, List.getElem?_cons_zero, Option.some.injEq] at e
  subst e
  exact wpOp_v (v := .float .f64 9218868437227405312) ho rfl (by rw [← h.inf]; rfl) (h.put 17 14 _ (by decide) (by decide) (by decide) (by decide) (by intro p hp; simp [prodVals] at hp; rcases hp with rfl | rfl | rfl | rfl | rfl | rfl | rfl | rfl | rfl | rfl | rfl | rfl | rfl | rfl | rfl | rfl <;> simp) (by intro q hq; simp [prodIns] at hq; rcases hq with rfl | rfl | rfl | rfl | rfl | rfl | rfl | rfl <;> simp))
theorem prod_step18 {B : Nat} {W0 : World} {D : List Deferred} {Q : Exit → Act → World → Prop} (hB : W0.heap.size = B) (listed : Array Bool) (a : Act) (w : World) (h : Fills 24 18 B W0 (.float .f64 9218868437227405312) D (prodVals B) prodIns listed a w) (h0 : listed.getD 18 true = false) (o : Oper) (ho : prodOps[18]? = some o) (hdep : ∀ e ∈ o.after, Region.binds .any e = true → listed.getD e.on false = true) :
    wpOp Tryd.prog prodOps Q 18 (fun a' w' => Fills 24 18 B W0 (.float .f64 9218868437227405312) D (prodVals B) prodIns (listed.setIfInBounds 18 true) a' w') a w := by
  have e := ho
  simp only [prodOps, Tryd.f39, List.getElem?_toArray, List.getElem?_cons_succ, List.getElem?_cons_zero, Option.some.injEq] at e
  subst e
  have d0 := hdep { on := 0, ground := .data } (by simp) rfl
  have d1 := hdep { on := 16, ground := .data } (by simp) rfl
  have v0 := h.val (0, 3, .map (some B)) (by simp [prodVals]) d0
  have v1 := h.val (16, 13, keyV 2 1) (by simp [prodVals]) d1
  have d2 := hdep { on := 17, ground := .data } (by simp) rfl
  have v2 := h.val (17, 14, .float .f64 9218868437227405312) (by simp [prodVals]) d2
  obtain ⟨es, c, he, hes, _⟩ := h.yes d0
  have hl : listed.getD 18 false = false := by
    have hs := h.size
    simp [hs] at h0 ⊢
    exact h0
  have hf : ∀ w, (Instr.findKey 83 (keyV 2 1) es.toList).run Tryd.prog w = .ok none w := key_free 2 1 (by decide) (by decide) (fun e hem => by
    obtain ⟨q, hqm, k1, k2, _⟩ := hes e hem
    refine ⟨q.2.1, q.2.2.1, k2, ?_⟩
    simp [prodIns] at hqm
    rcases hqm with rfl | rfl | rfl | rfl | rfl | rfl | rfl | rfl <;> first | decide | (exfalso; rw [hl] at k1; cases k1))
  have hr := run_put (w := w) (val := .float .f64 9218868437227405312) Tryd.underlying54 he (key_ok 2 1) hf
  refine wpOp_s (w' := mset w B (es.push ⟨keyV 2 1, .float .f64 9218868437227405312, c⟩) (c + 1)) ho rfl ?_ (h.lay 18 2 1 9218868437227405312 (by decide) (by decide) d0 (by intro p hp; simp [prodVals] at hp; rcases hp with rfl | rfl | rfl | rfl | rfl | rfl | rfl | rfl | rfl | rfl | rfl | rfl | rfl | rfl | rfl | rfl <;> simp) (by intro q hq; simp [prodIns] at hq; rcases hq with rfl | rfl | rfl | rfl | rfl | rfl | rfl | rfl <;> simp) (by simp [prodIns]) he hB)
  simp only [execOp, Act.eval, v0, v1, v2, Sem.run_bind, hr]
  rfl
theorem prod_step19 {B : Nat} {W0 : World} {D : List Deferred} {Q : Exit → Act → World → Prop} (hB : W0.heap.size = B) (listed : Array Bool) (a : Act) (w : World) (h : Fills 24 18 B W0 (.float .f64 9218868437227405312) D (prodVals B) prodIns listed a w) (h0 : listed.getD 19 true = false) (o : Oper) (ho : prodOps[19]? = some o) (hdep : ∀ e ∈ o.after, Region.binds .any e = true → listed.getD e.on false = true) :
    wpOp Tryd.prog prodOps Q 19 (fun a' w' => Fills 24 18 B W0 (.float .f64 9218868437227405312) D (prodVals B) prodIns (listed.setIfInBounds 19 true) a' w') a w := by
  have e := ho
  simp only [prodOps, Tryd.f39, List.getElem?_toArray, List.getElem?_cons_succ, List.getElem?_cons_zero, Option.some.injEq] at e
  subst e
  exact wpOp_v (v := keyV 2 2) ho rfl (by kernel_rfl) (h.put 19 15 _ (by decide) (by decide) (by decide) (by decide) (by intro p hp; simp [prodVals] at hp; rcases hp with rfl | rfl | rfl | rfl | rfl | rfl | rfl | rfl | rfl | rfl | rfl | rfl | rfl | rfl | rfl | rfl <;> simp) (by intro q hq; simp [prodIns] at hq; rcases hq with rfl | rfl | rfl | rfl | rfl | rfl | rfl | rfl <;> simp))
theorem prod_step20 {B : Nat} {W0 : World} {D : List Deferred} {Q : Exit → Act → World → Prop} (hB : W0.heap.size = B) (listed : Array Bool) (a : Act) (w : World) (h : Fills 24 18 B W0 (.float .f64 9218868437227405312) D (prodVals B) prodIns listed a w) (h0 : listed.getD 20 true = false) (o : Oper) (ho : prodOps[20]? = some o) (hdep : ∀ e ∈ o.after, Region.binds .any e = true → listed.getD e.on false = true) :
    wpOp Tryd.prog prodOps Q 20 (fun a' w' => Fills 24 18 B W0 (.float .f64 9218868437227405312) D (prodVals B) prodIns (listed.setIfInBounds 20 true) a' w') a w := by
  have e := ho
  simp only [prodOps, Tryd.f39, List.getElem?_toArray, List.getElem?_cons_succ, List.getElem?_cons_zero, Option.some.injEq] at e
  subst e
  exact wpOp_v (v := .float .f64 9218868437227405312) ho rfl (by rw [← h.inf]; rfl) (h.put 20 16 _ (by decide) (by decide) (by decide) (by decide) (by intro p hp; simp [prodVals] at hp; rcases hp with rfl | rfl | rfl | rfl | rfl | rfl | rfl | rfl | rfl | rfl | rfl | rfl | rfl | rfl | rfl | rfl <;> simp) (by intro q hq; simp [prodIns] at hq; rcases hq with rfl | rfl | rfl | rfl | rfl | rfl | rfl | rfl <;> simp))
theorem prod_step21 {B : Nat} {W0 : World} {D : List Deferred} {Q : Exit → Act → World → Prop} (hB : W0.heap.size = B) (listed : Array Bool) (a : Act) (w : World) (h : Fills 24 18 B W0 (.float .f64 9218868437227405312) D (prodVals B) prodIns listed a w) (h0 : listed.getD 21 true = false) (o : Oper) (ho : prodOps[21]? = some o) (hdep : ∀ e ∈ o.after, Region.binds .any e = true → listed.getD e.on false = true) :
    wpOp Tryd.prog prodOps Q 21 (fun a' w' => Fills 24 18 B W0 (.float .f64 9218868437227405312) D (prodVals B) prodIns (listed.setIfInBounds 21 true) a' w') a w := by
  have e := ho
  simp only [prodOps, Tryd.f39, List.getElem?_toArray, List.getElem?_cons_succ, List.getElem?_cons_zero, Option.some.injEq] at e
  subst e
  have d0 := hdep { on := 0, ground := .data } (by simp) rfl
  have d1 := hdep { on := 19, ground := .data } (by simp) rfl
  have v0 := h.val (0, 3, .map (some B)) (by simp [prodVals]) d0
  have v1 := h.val (19, 15, keyV 2 2) (by simp [prodVals]) d1
  have d2 := hdep { on := 20, ground := .data } (by simp) rfl
  have v2 := h.val (20, 16, .float .f64 9218868437227405312) (by simp [prodVals]) d2
  obtain ⟨es, c, he, hes, _⟩ := h.yes d0
  have hl : listed.getD 21 false = false := by
    have hs := h.size
    simp [hs] at h0 ⊢
    exact h0
  have hf : ∀ w, (Instr.findKey 83 (keyV 2 2) es.toList).run Tryd.prog w = .ok none w := key_free 2 2 (by decide) (by decide) (fun e hem => by
    obtain ⟨q, hqm, k1, k2, _⟩ := hes e hem
    refine ⟨q.2.1, q.2.2.1, k2, ?_⟩
    simp [prodIns] at hqm
    rcases hqm with rfl | rfl | rfl | rfl | rfl | rfl | rfl | rfl <;> first | decide | (exfalso; rw [hl] at k1; cases k1))
  have hr := run_put (w := w) (val := .float .f64 9218868437227405312) Tryd.underlying54 he (key_ok 2 2) hf
  refine wpOp_s (w' := mset w B (es.push ⟨keyV 2 2, .float .f64 9218868437227405312, c⟩) (c + 1)) ho rfl ?_ (h.lay 21 2 2 9218868437227405312 (by decide) (by decide) d0 (by intro p hp; simp [prodVals] at hp; rcases hp with rfl | rfl | rfl | rfl | rfl | rfl | rfl | rfl | rfl | rfl | rfl | rfl | rfl | rfl | rfl | rfl <;> simp) (by intro q hq; simp [prodIns] at hq; rcases hq with rfl | rfl | rfl | rfl | rfl | rfl | rfl | rfl <;> simp) (by simp [prodIns]) he hB)
  simp only [execOp, Act.eval, v0, v1, v2, Sem.run_bind, hr]
  rfl
theorem prod_step22 {B : Nat} {W0 : World} {D : List Deferred} {Q : Exit → Act → World → Prop} (hB : W0.heap.size = B) (listed : Array Bool) (a : Act) (w : World) (h : Fills 24 18 B W0 (.float .f64 9218868437227405312) D (prodVals B) prodIns listed a w) (h0 : listed.getD 22 true = false) (o : Oper) (ho : prodOps[22]? = some o) (hdep : ∀ e ∈ o.after, Region.binds .any e = true → listed.getD e.on false = true) :
    wpOp Tryd.prog prodOps Q 22 (fun a' w' => Fills 24 18 B W0 (.float .f64 9218868437227405312) D (prodVals B) prodIns (listed.setIfInBounds 22 true) a' w') a w := by
  have e := ho
  simp only [prodOps, Tryd.f39, List.getElem?_toArray, List.getElem?_cons_succ, List.getElem?_cons_zero, Option.some.injEq] at e
  subst e
  have d0 := hdep { on := 0, ground := .data } (by simp) rfl
  have v0 : a.tmps.getD 3 undef = .map (some B) := h.val (0, 3, .map (some B)) (by simp [prodVals]) d0
  exact wpOp_v (v := a.tmps.getD 3 undef) ho rfl rfl (by rw [v0]; exact h.put 22 17 _ (by decide) (by decide) (by decide) (by decide) (by intro p hp; simp [prodVals] at hp; rcases hp with rfl | rfl | rfl | rfl | rfl | rfl | rfl | rfl | rfl | rfl | rfl | rfl | rfl | rfl | rfl | rfl <;> simp) (by intro q hq; simp [prodIns] at hq; rcases hq with rfl | rfl | rfl | rfl | rfl | rfl | rfl | rfl <;> simp))
theorem prod_step23 {B : Nat} {W0 : World} {D : List Deferred} {Q : Exit → Act → World → Prop} (hB : W0.heap.size = B) (listed : Array Bool) (a : Act) (w : World) (h : Fills 24 18 B W0 (.float .f64 9218868437227405312) D (prodVals B) prodIns listed a w) (h0 : listed.getD 23 true = false) (o : Oper) (ho : prodOps[23]? = some o) (hdep : ∀ e ∈ o.after, Region.binds .any e = true → listed.getD e.on false = true) :
    wpOp Tryd.prog prodOps Q 23 (fun a' w' => Fills 24 18 B W0 (.float .f64 9218868437227405312) D (prodVals B) prodIns (listed.setIfInBounds 23 true) a' w') a w := by
  have e := ho
  simp only [prodOps, Tryd.f39, List.getElem?_toArray, List.getElem?_cons_succ, List.getElem?_cons_zero, Option.some.injEq] at e
  subst e
  have d0 := hdep { on := 22, ground := .data } (by simp) rfl
  have v0 : a.tmps.getD 17 undef = .map (some B) := h.val (22, 17, .map (some B)) (by simp [prodVals]) d0
  exact wpOp_v (v := a.tmps.getD 17 undef) ho rfl rfl (by rw [v0]; exact h.put 23 0 _ (by decide) (by decide) (by decide) (by decide) (by intro p hp; simp [prodVals] at hp; rcases hp with rfl | rfl | rfl | rfl | rfl | rfl | rfl | rfl | rfl | rfl | rfl | rfl | rfl | rfl | rfl | rfl <;> simp) (by intro q hq; simp [prodIns] at hq; rcases hq with rfl | rfl | rfl | rfl | rfl | rfl | rfl | rfl <;> simp))
theorem prod_step {B : Nat} {W0 : World} {D : List Deferred} {Q : Exit → Act → World → Prop} (hB : W0.heap.size = B) (listed : Array Bool) (a : Act) (w : World) (i : Nat) (h : Fills 24 18 B W0 (.float .f64 9218868437227405312) D (prodVals B) prodIns listed a w) (hr : i ∈ Region.ready .any prodOps listed) :
    wpOp Tryd.prog prodOps Q i (fun a' w' => Fills 24 18 B W0 (.float .f64 9218868437227405312) D (prodVals B) prodIns (listed.setIfInBounds i true) a' w') a w := by
  obtain ⟨h0, o, ho, hdep⟩ := mem_ready.1 hr
  have hi : i < 24 := (Array.getElem?_eq_some_iff.1 ho).1
  have hc : i = 0 ∨ i = 1 ∨ i = 2 ∨ i = 3 ∨ i = 4 ∨ i = 5 ∨ i = 6 ∨ i = 7 ∨ i = 8 ∨ i = 9 ∨ i = 10 ∨ i = 11 ∨ i = 12 ∨ i = 13 ∨ i = 14 ∨ i = 15 ∨ i = 16 ∨ i = 17 ∨ i = 18 ∨ i = 19 ∨ i = 20 ∨ i = 21 ∨ i = 22 ∨ i = 23 := by omega
  rcases hc with rfl | rfl | rfl | rfl | rfl | rfl | rfl | rfl | rfl | rfl | rfl | rfl | rfl | rfl | rfl | rfl | rfl | rfl | rfl | rfl | rfl | rfl | rfl | rfl
  · exact prod_step0 hB listed a w h h0 o ho hdep
  · exact prod_step1 hB listed a w h h0 o ho hdep
  · exact prod_step2 hB listed a w h h0 o ho hdep
  · exact prod_step3 hB listed a w h h0 o ho hdep
  · exact prod_step4 hB listed a w h h0 o ho hdep
  · exact prod_step5 hB listed a w h h0 o ho hdep
  · exact prod_step6 hB listed a w h h0 o ho hdep
  · exact prod_step7 hB listed a w h h0 o ho hdep
  · exact prod_step8 hB listed a w h h0 o ho hdep
  · exact prod_step9 hB listed a w h h0 o ho hdep
  · exact prod_step10 hB listed a w h h0 o ho hdep
  · exact prod_step11 hB listed a w h h0 o ho hdep
  · exact prod_step12 hB listed a w h h0 o ho hdep
  · exact prod_step13 hB listed a w h h0 o ho hdep
  · exact prod_step14 hB listed a w h h0 o ho hdep
  · exact prod_step15 hB listed a w h h0 o ho hdep
  · exact prod_step16 hB listed a w h h0 o ho hdep
  · exact prod_step17 hB listed a w h h0 o ho hdep
  · exact prod_step18 hB listed a w h h0 o ho hdep
  · exact prod_step19 hB listed a w h h0 o ho hdep
  · exact prod_step20 hB listed a w h h0 o ho hdep
  · exact prod_step21 hB listed a w h h0 o ho hdep
  · exact prod_step22 hB listed a w h h0 o ho hdep
  · exact prod_step23 hB listed a w h h0 o ho hdep
theorem prod_any (w : World) : Calls Tryd.prog 39 #[] w fun z w' => ∃ es c, z = .returned (.map (some w.heap.size)) ∧ Below w.heap.size w w' ∧ w'.heap[w.heap.size]? = some (.map es c) ∧ TabE prodIns es := by
  go_enter Tryd.func39, Tryd.ntmps39
  go_wp2_with fail
  refine (inf_any _).mono ?_
  rintro z w' ⟨rfl, rfl⟩
  go_wp2_with fail
  refine wp_region_any (by kernel_rfl) ?_
  refine wpAny_inv (ops := prodOps) (Inv := Fills 24 18 w.heap.size w.drew (.float .f64 9218868437227405312) [] (prodVals w.heap.size) prodIns) ?fin (fun listed a wx i h hr => prod_step (B := w.heap.size) (W0 := w.drew) rfl listed a wx i h hr) 24 _ _ _ (by decide +kernel) ?start
  case start =>
    refine ⟨rfl, rfl, rfl, rfl, fun p hp hl => ?_, fun _ => rfl, Below.refl _ _, fun hl => ?_, fun _ q hq => ?_⟩
    · simp [prodVals] at hp
      rcases hp with rfl | rfl | rfl | rfl | rfl | rfl | rfl | rfl | rfl | rfl | rfl | rfl | rfl | rfl | rfl | rfl <;> cases hl
    · cases hl
    · simp [prodIns] at hq
      rcases hq with rfl | rfl | rfl | rfl | rfl | rfl | rfl | rfl <;> rfl
  case fin =>
    intro listed a w1 h hr
    have hl := all_listed h.size prod_hops hr
    obtain ⟨es, c, h1, h2, h3⟩ := h.yes (hl 0 (by decide))
    have h4 := h.val (23, 0, .map (some w.heap.size)) (by simp [prodVals]) (hl 23 (by decide))
    have hT : TabE prodIns es := ⟨fun e he => by obtain ⟨q, k1, k2, k3⟩ := h2 e he; exact ⟨q, k1, k3⟩, fun q hq => h3 q hq (by simp [prodIns] at hq; rcases hq with rfl | rfl | rfl | rfl | rfl | rfl | rfl | rfl <;> exact hl _ (by decide))⟩
    have hB := h.below
    have hB' : Below w.heap.size w w1 := ((Below.refl w.heap.size w).drew).trans hB
    clear h2 h3 hl hr
    obtain ⟨tm, df⟩ := a
    obtain rfl : df = [] := h.dfr
    go_wp2_with fail
    go_ret
    exact ⟨congrArg Ending.returned h4, hB', es, ⟨c, h1⟩, hT⟩
noncomputable def quoOps : Array Oper := match Tryd.f42.body with
  | some (.seq _ (.seq _ (.seq (.region _ ops _) _))) => ops
  | _ => #[]
def quoVals (B : Nat) : List (Nat × Nat × Value) := [(0, 3, .map (some B)), (1, 4, keyV 0 0), (2, 5, .float .f64 9221120237041090560), (4, 6, keyV 0 1), (6, 7, keyV 1 0), (7, 8, .float .f64 9218868437227405312), (9, 9, keyV 0 2), (11, 10, keyV 2 0), (12, 11, .float .f64 9218868437227405312), (14, 12, keyV 1 2), (16, 13, keyV 2 1), (17, 14, .float .f64 9218868437227405312), (19, 15, keyV 2 2), (20, 16, .float .f64 9221120237041090560), (22, 17, .map (some B)), (23, 0, .map (some B))]
def quoIns : List (Nat × Int × Int × Nat) := [(3, 0, 0, 9221120237041090560), (5, 0, 1, 0), (8, 1, 0, 9218868437227405312), (10, 0, 2, 0), (13, 2, 0, 9218868437227405312), (15, 1, 2, 0), (18, 2, 1, 9218868437227405312), (21, 2, 2, 9221120237041090560)]
theorem quo_hops : ∀ (i : Nat) (o : Oper), quoOps[i]? = some o → ∀ e ∈ o.after, e.on < i := hops_of (by decide +kernel)
theorem quo_step0 {B : Nat} {W0 : World} {D : List Deferred} {Q : Exit → Act → World → Prop} (hB : W0.heap.size = B) (listed : Array Bool) (a : Act) (w : World) (h : Fills 24 18 B W0 (.float .f64 9218868437227405312) D (quoVals B) quoIns listed a w) (h0 : listed.getD 0 true = false) (o : Oper) (ho : quoOps[0]? = some o) (hdep : ∀ e ∈ o.after, Region.binds .any e = true → listed.getD e.on false = true) :
    wpOp Tryd.prog quoOps Q 0 (fun a' w' => Fills 24 18 B W0 (.float .f64 9218868437227405312) D (quoVals B) quoIns (listed.setIfInBounds 0 true) a' w') a w := by
  have e := ho
  simp only [quoOps, Tryd.f42, List.getElem?_toArray, List.getElem?_cons_succ, List.getElem?_cons_zero, Option.some.injEq] at e
  subst e
  have hl0 : listed.getD 0 false = false := by
    have hs := h.size
    simp [hs] at h0 ⊢
    exact h0
  have hW := h.no hl0
  refine wpOp_v (v := .map (some B)) (w' := w.alloc (.map #[] 0)) ho rfl ?_ (h.make hB hl0 3 _ (by decide) (by decide) (by decide) (by intro p hp; simp [quoVals] at hp; rcases hp with rfl | rfl | rfl | rfl | rfl | rfl | rfl | rfl | rfl | rfl | rfl | rfl | rfl | rfl | rfl | rfl <;> simp) (by intro q hq; simp [quoIns] at hq; rcases hq with rfl | rfl | rfl | rfl | rfl | rfl | rfl | rfl <;> simp))
  have hr := run_makeMap_plain (P := Tryd.prog) w 54
  rw [hW, hB] at hr
  rw [hW]
  simp [execOp, hr, Result.andThen]
theorem quo_step1 {B : Nat} {W0 : World} {D : List Deferred} {Q : Exit → Act → World → Prop} (hB : W0.heap.size = B) (listed : Array Bool) (a : Act) (w : World) (h : Fills 24 18 B W0 (.float .f64 9218868437227405312) D (quoVals B) quoIns listed a w) (h0 : listed.getD 1 true = false) (o : Oper) (ho : quoOps[1]? = some o) (hdep : ∀ e ∈ o.after, Region.binds .any e = true → listed.getD e.on false = true) :
    wpOp Tryd.prog quoOps Q 1 (fun a' w' => Fills 24 18 B W0 (.float .f64 9218868437227405312) D (quoVals B) quoIns (listed.setIfInBounds 1 true) a' w') a w := by
  have e := ho
  simp only [quoOps, Tryd.f42, List.getElem?_toArray, List.getElem?_cons_succ, List.getElem?_cons_zero, Option.some.injEq] at e
  subst e
  exact wpOp_v (v := keyV 0 0) ho rfl (by kernel_rfl) (h.put 1 4 _ (by decide) (by decide) (by decide) (by decide) (by intro p hp; simp [quoVals] at hp; rcases hp with rfl | rfl | rfl | rfl | rfl | rfl | rfl | rfl | rfl | rfl | rfl | rfl | rfl | rfl | rfl | rfl <;> simp) (by intro q hq; simp [quoIns] at hq; rcases hq with rfl | rfl | rfl | rfl | rfl | rfl | rfl | rfl <;> simp))
theorem quo_step2 {B : Nat} {W0 : World} {D : List Deferred} {Q : Exit → Act → World → Prop} (hB : W0.heap.size = B) (listed : Array Bool) (a : Act) (w : World) (h : Fills 24 18 B W0 (.float .f64 9218868437227405312) D (quoVals B) quoIns listed a w) (h0 : listed.getD 2 true = false) (o : Oper) (ho : quoOps[2]? = some o) (hdep : ∀ e ∈ o.after, Region.binds .any e = true → listed.getD e.on false = true) :
    wpOp Tryd.prog quoOps Q 2 (fun a' w' => Fills 24 18 B W0 (.float .f64 9218868437227405312) D (quoVals B) quoIns (listed.setIfInBounds 2 true) a' w') a w := by
  have e := ho
  simp only [quoOps, Tryd.f42, List.getElem?_toArray, List.getElem?_cons_succ, List.getElem?_cons_zero, Option.some.injEq] at e
  subst e
  refine wpOp_c (f := 31) (args := #[]) (w' := w) ho rfl (by kernel_rfl) ?_
  refine (snan_any _).mono ?_
  rintro z w' ⟨rfl, rfl⟩
  exact ⟨.float .f64 9221120237041090560, rfl, h.put 2 5 _ (by decide) (by decide) (by decide) (by decide) (by intro p hp; simp [quoVals] at hp; rcases hp with rfl | rfl | rfl | rfl | rfl | rfl | rfl | rfl | rfl | rfl | rfl | rfl | rfl | rfl | rfl | rfl <;> simp) (by intro q hq; simp [quoIns] at hq; rcases hq with rfl | rfl | rfl | rfl | rfl | rfl | rfl | rfl <;> simp)⟩
theorem quo_step3 {B : Nat} {W0 : World} {D : List Deferred} {Q : Exit → Act → World → Prop} (hB : W0.heap.size = B) (listed : Array Bool) (a : Act) (w : World) (h : Fills 24 18 B W0 (.float .f64 9218868437227405312) D (quoVals B) quoIns listed a w) (h0 : listed.getD 3 true = false) (o : Oper) (ho : quoOps[3]? = some o) (hdep : ∀ e ∈ o.after, Region.binds .any e = true → listed.getD e.on false = true) :
    wpOp Tryd.prog quoOps Q 3 (fun a' w' => Fills 24 18 B W0 (.float .f64 9218868437227405312) D (quoVals B) quoIns (listed.setIfInBounds 3 true) a' w') a w := by
  have e := ho
  simp only [quoOps, Tryd.f42, List.getElem?_toArray, List.getElem?_cons_succ, List.getElem?_cons_zero, Option.some.injEq] at e
  subst e
  have d0 := hdep { on := 0, ground := .data } (by simp) rfl
  have d1 := hdep { on := 1, ground := .data } (by simp) rfl
  have v0 := h.val (0, 3, .map (some B)) (by simp [quoVals]) d0
  have v1 := h.val (1, 4, keyV 0 0) (by simp [quoVals]) d1
  have d2 := hdep { on := 2, ground := .data } (by simp) rfl
  have v2 := h.val (2, 5, .float .f64 9221120237041090560) (by simp [quoVals]) d2
  obtain ⟨es, c, he, hes, _⟩ := h.yes d0
  have hl : listed.getD 3 false = false := by
    have hs := h.size
    simp [hs] at h0 ⊢
    exact h0
  have hf : ∀ w, (Instr.findKey 83 (keyV 0 0) es.toList).run Tryd.prog w = .ok none w := key_free 0 0 (by decide) (by decide) (fun e hem => by
    obtain ⟨q, hqm, k1, k2, _⟩ := hes e hem
    refine ⟨q.2.1, q.2.2.1, k2, ?_⟩
    simp [quoIns] at hqm
    rcases hqm with rfl | rfl | rfl | rfl | rfl | rfl | rfl | rfl <;> first | decide | (exfalso; rw [hl] at k1; cases k1))
  have hr := run_put (w := w) (val := .float .f64 9221120237041090560) Tryd.underlying54 he (key_ok 0 0) hf
  refine wpOp_s (w' := mset w B (es.push ⟨keyV 0 0, .float .f64 9221120237041090560, c⟩) (c + 1)) ho rfl ?_ (h.lay 3 0 0 9221120237041090560 (by decide) (by decide) d0 (by intro p hp; simp [quoVals] at hp; rcases hp with rfl | rfl | rfl | rfl | rfl | rfl | rfl | rfl | rfl | rfl | rfl | rfl | rfl | rfl | rfl | rfl <;> simp) (by intro q hq; simp [quoIns] at hq; rcases hq with rfl | rfl | rfl | rfl | rfl | rfl | rfl | rfl <;> simp) (by simp [quoIns]) he hB)
  simp only [execOp, Act.eval, v0, v1, v2, Sem.run_bind, hr]
  rfl
theorem quo_step4 {B : Nat} {W0 : World} {D : List Deferred} {Q : Exit → Act → World → Prop} (hB : W0.heap.size = B) (listed : Array Bool) (a : Act) (w : World) (h : Fills 24 18 B W0 (.float .f64 9218868437227405312) D (quoVals B) quoIns listed a w) (h0 : listed.getD 4 true = false) (o : Oper) (ho : quoOps[4]? = some o) (hdep : ∀ e ∈ o.after, Region.binds .any e = true → listed.getD e.on false = true) :
    wpOp Tryd.prog quoOps Q 4 (fun a' w' => Fills 24 18 B W0 (.float .f64 9218868437227405312) D (quoVals B) quoIns (listed.setIfInBounds 4 true) a' w') a w := by
  have e := ho
  simp only [quoOps, Tryd.f42, List.getElem?_toArray, List.getElem?_cons_succ, List.getElem?_cons_zero, Option.some.injEq] at e
  subst e
  exact wpOp_v (v := keyV 0 1) ho rfl (by kernel_rfl) (h.put 4 6 _ (by decide) (by decide) (by decide) (by decide) (by intro p hp; simp [quoVals] at hp; rcases hp with rfl | rfl | rfl | rfl | rfl | rfl | rfl | rfl | rfl | rfl | rfl | rfl | rfl | rfl | rfl | rfl <;> simp) (by intro q hq; simp [quoIns] at hq; rcases hq with rfl | rfl | rfl | rfl | rfl | rfl | rfl | rfl <;> simp))
theorem quo_step5 {B : Nat} {W0 : World} {D : List Deferred} {Q : Exit → Act → World → Prop} (hB : W0.heap.size = B) (listed : Array Bool) (a : Act) (w : World) (h : Fills 24 18 B W0 (.float .f64 9218868437227405312) D (quoVals B) quoIns listed a w) (h0 : listed.getD 5 true = false) (o : Oper) (ho : quoOps[5]? = some o) (hdep : ∀ e ∈ o.after, Region.binds .any e = true → listed.getD e.on false = true) :
    wpOp Tryd.prog quoOps Q 5 (fun a' w' => Fills 24 18 B W0 (.float .f64 9218868437227405312) D (quoVals B) quoIns (listed.setIfInBounds 5 true) a' w') a w := by
  have e := ho
  simp only [quoOps, Tryd.f42, List.getElem?_toArray, List.getElem?_cons_succ, List.getElem?_cons_zero, Option.some.injEq] at e
  subst e
  have d0 := hdep { on := 0, ground := .data } (by simp) rfl
  have d1 := hdep { on := 4, ground := .data } (by simp) rfl
  have v0 := h.val (0, 3, .map (some B)) (by simp [quoVals]) d0
  have v1 := h.val (4, 6, keyV 0 1) (by simp [quoVals]) d1
  obtain ⟨es, c, he, hes, _⟩ := h.yes d0
  have hl : listed.getD 5 false = false := by
    have hs := h.size
    simp [hs] at h0 ⊢
    exact h0
  have hf : ∀ w, (Instr.findKey 83 (keyV 0 1) es.toList).run Tryd.prog w = .ok none w := key_free 0 1 (by decide) (by decide) (fun e hem => by
    obtain ⟨q, hqm, k1, k2, _⟩ := hes e hem
    refine ⟨q.2.1, q.2.2.1, k2, ?_⟩
    simp [quoIns] at hqm
    rcases hqm with rfl | rfl | rfl | rfl | rfl | rfl | rfl | rfl <;> first | decide | (exfalso; rw [hl] at k1; cases k1))
  have hr := run_put (w := w) (val := .float .f64 0) Tryd.underlying54 he (key_ok 0 1) hf
  refine wpOp_s (w' := mset w B (es.push ⟨keyV 0 1, .float .f64 0, c⟩) (c + 1)) ho rfl ?_ (h.lay 5 0 1 0 (by decide) (by decide) d0 (by intro p hp; simp [quoVals] at hp; rcases hp with rfl | rfl | rfl | rfl | rfl | rfl | rfl | rfl | rfl | rfl | rfl | rfl | rfl | rfl | rfl | rfl <;> simp) (by intro q hq; simp [quoIns] at hq; rcases hq with rfl | rfl | rfl | rfl | rfl | rfl | rfl | rfl <;> simp) (by simp [quoIns]) he hB)
  simp only [execOp, Act.eval, v0, v1, Sem.run_bind, hr]
  rfl
theorem quo_step6 {B : Nat} {W0 : World} {D : List Deferred} {Q : Exit → Act → World → Prop} (hB : W0.heap.size = B) (listed : Array Bool) (a : Act) (w : World) (h : Fills 24 18 B W0 (.float .f64 9218868437227405312) D (quoVals B) quoIns listed a w) (h0 : listed.getD 6 true = false) (o : Oper) (ho : quoOps[6]? = some o) (hdep : ∀ e ∈ o.after, Region.binds .any e = true → listed.getD e.on false = true) :
    wpOp Tryd.prog quoOps Q 6 (fun a' w' => Fills 24 18 B W0 (.float .f64 9218868437227405312) D (quoVals B) quoIns (listed.setIfInBounds 6 true) a' w') a w := by
  have e := ho
  simp only [quoOps, Tryd.f42, List.getElem?_toArray, List.getElem?_cons_succ, List.getElem?_cons_zero, Option.some.injEq] at e
  subst e
  exact wpOp_v (v := keyV 1 0) ho rfl (by kernel_rfl) (h.put 6 7 _ (by decide) (by decide) (by decide) (by decide) (by intro p hp; simp [quoVals] at hp; rcases hp with rfl | rfl | rfl | rfl | rfl | rfl | rfl | rfl | rfl | rfl | rfl | rfl | rfl | rfl | rfl | rfl <;> simp) (by intro q hq; simp [quoIns] at hq; rcases hq with rfl | rfl | rfl | rfl | rfl | rfl | rfl | rfl <;> simp))
theorem quo_step7 {B : Nat} {W0 : World} {D : List Deferred} {Q : Exit → Act → World → Prop} (hB : W0.heap.size = B) (listed : Array Bool) (a : Act) (w : World) (h : Fills 24 18 B W0 (.float .f64 9218868437227405312) D (quoVals B) quoIns listed a w) (h0 : listed.getD 7 true = false) (o : Oper) (ho : quoOps[7]? = some o) (hdep : ∀ e ∈ o.after, Region.binds .any e = true → listed.getD e.on false = true) :
    wpOp Tryd.prog quoOps Q 7 (fun a' w' => Fills 24 18 B W0 (.float .f64 9218868437227405312) D (quoVals B) quoIns (listed.setIfInBounds 7 true) a' w') a w := by
  have e := ho
  simp only [quoOps, Tryd.f42, List.getElem?_toArray, List.getElem?_cons_succ, List.getElem?_cons_zero, Option.some.injEq] at e
  subst e
  exact wpOp_v (v := .float .f64 9218868437227405312) ho rfl (by rw [← h.inf]; rfl) (h.put 7 8 _ (by decide) (by decide) (by decide) (by decide) (by intro p hp; simp [quoVals] at hp; rcases hp with rfl | rfl | rfl | rfl | rfl | rfl | rfl | rfl | rfl | rfl | rfl | rfl | rfl | rfl | rfl | rfl <;> simp) (by intro q hq; simp [quoIns] at hq; rcases hq with rfl | rfl | rfl | rfl | rfl | rfl | rfl | rfl <;> simp))
theorem quo_step8 {B : Nat} {W0 : World} {D : List Deferred} {Q : Exit → Act → World → Prop} (hB : W0.heap.size = B) (listed : Array Bool) (a : Act) (w : World) (h : Fills 24 18 B W0 (.float .f64 9218868437227405312) D (quoVals B) quoIns listed a w) (h0 : listed.getD 8 true = false) (o : Oper) (ho : quoOps[8]? = some o) (hdep : ∀ e ∈ o.after, Region.binds .any e = true → listed.getD e.on false = true) :
    wpOp Tryd.prog quoOps Q 8 (fun a' w' => Fills 24 18 B W0 (.float .f64 9218868437227405312) D (quoVals B) quoIns (listed.setIfInBounds 8 true) a' w') a w := by
  have e := ho
  simp only [quoOps, Tryd.f42, List.getElem?_toArray, List.getElem?_cons_succ, List.getElem?_cons_zero, Option.some.injEq] at e
  subst e
  have d0 := hdep { on := 0, ground := .data } (by simp) rfl
  have d1 := hdep { on := 6, ground := .data } (by simp) rfl
  have v0 := h.val (0, 3, .map (some B)) (by simp [quoVals]) d0
  have v1 := h.val (6, 7, keyV 1 0) (by simp [quoVals]) d1
  have d2 := hdep { on := 7, ground := .data } (by simp) rfl
  have v2 := h.val (7, 8, .float .f64 9218868437227405312) (by simp [quoVals]) d2
  obtain ⟨es, c, he, hes, _⟩ := h.yes d0
  have hl : listed.getD 8 false = false := by
    have hs := h.size
    simp [hs] at h0 ⊢
    exact h0
  have hf : ∀ w, (Instr.findKey 83 (keyV 1 0) es.toList).run Tryd.prog w = .ok none w := key_free 1 0 (by decide) (by decide) (fun e hem => by
    obtain ⟨q, hqm, k1, k2, _⟩ := hes e hem
    refine ⟨q.2.1, q.2.2.1, k2, ?_⟩
    simp [quoIns] at hqm
    rcases hqm with rfl | rfl | rfl | rfl | rfl | rfl | rfl | rfl <;> first | decide | (exfalso; rw [hl] at k1; cases k1))
  have hr := run_put (w := w) (val := .float .f64 9218868437227405312) Tryd.underlying54 he (key_ok 1 0) hf
  refine wpOp_s (w' := mset w B (es.push ⟨keyV 1 0, .float .f64 9218868437227405312, c⟩) (c + 1)) ho rfl ?_ (h.lay 8 1 0 9218868437227405312 (by decide) (by decide) d0 (by intro p hp; simp [quoVals] at hp; rcases hp with rfl | rfl | rfl | rfl | rfl | rfl | rfl | rfl | rfl | rfl | rfl | rfl | rfl | rfl | rfl | rfl <;> simp) (by intro q hq; simp [quoIns] at hq; rcases hq with rfl | rfl | rfl | rfl | rfl | rfl | rfl | rfl <;> simp) (by simp [quoIns]) he hB)
  simp only [execOp, Act.eval, v0, v1, v2, Sem.run_bind, hr]
  rfl
theorem quo_step9 {B : Nat} {W0 : World} {D : List Deferred} {Q : Exit → Act → World → Prop} (hB : W0.heap.size = B) (listed : Array Bool) (a : Act) (w : World) (h : Fills 24 18 B W0 (.float .f64 9218868437227405312) D (quoVals B) quoIns listed a w) (h0 : listed.getD 9 true = false) (o : Oper) (ho : quoOps[9]? = some o) (hdep : ∀ e ∈ o.after, Region.binds .any e = true → listed.getD e.on false = true) :
    wpOp Tryd.prog quoOps Q 9 (fun a' w' => Fills 24 18 B W0 (.float .f64 9218868437227405312) D (quoVals B) quoIns (listed.setIfInBounds 9 true) a' w') a w := by
  have e := ho
  simp only [quoOps, Tryd.f42, List.getElem?_toArray, List.getElem?_cons_succ, List.getElem?_cons_zero, Option.some.injEq] at e
  subst e
  exact wpOp_v (v := keyV 0 2) ho rfl (by kernel_rfl) (h.put 9 9 _ (by decide) (by decide) (by decide) (by decide) (by intro p hp; simp [quoVals] at hp; rcases hp with rfl | rfl | rfl | rfl | rfl | rfl | rfl | rfl | rfl | rfl | rfl | rfl | rfl | rfl | rfl | rfl <;> simp) (by intro q hq; simp [quoIns] at hq; rcases hq with rfl | rfl | rfl | rfl | rfl | rfl | rfl | rfl <;> simp))
theorem quo_step10 {B : Nat} {W0 : World} {D : List Deferred} {Q : Exit → Act → World → Prop} (hB : W0.heap.size = B) (listed : Array Bool) (a : Act) (w : World) (h : Fills 24 18 B W0 (.float .f64 9218868437227405312) D (quoVals B) quoIns listed a w) (h0 : listed.getD 10 true = false) (o : Oper) (ho : quoOps[10]? = some o) (hdep : ∀ e ∈ o.after, Region.binds .any e = true → listed.getD e.on false = true) :
    wpOp Tryd.prog quoOps Q 10 (fun a' w' => Fills 24 18 B W0 (.float .f64 9218868437227405312) D (quoVals B) quoIns (listed.setIfInBounds 10 true) a' w') a w := by
  have e := ho
  simp only [quoOps, Tryd.f42, List.getElem?_toArray, List.getElem?_cons_succ, List.getElem?_cons_zero, Option.some.injEq] at e
  subst e
  have d0 := hdep { on := 0, ground := .data } (by simp) rfl
  have d1 := hdep { on := 9, ground := .data } (by simp) rfl
  have v0 := h.val (0, 3, .map (some B)) (by simp [quoVals]) d0
  have v1 := h.val (9, 9, keyV 0 2) (by simp [quoVals]) d1
  obtain ⟨es, c, he, hes, _⟩ := h.yes d0
  have hl : listed.getD 10 false = false := by
    have hs := h.size
    simp [hs] at h0 ⊢
    exact h0
  have hf : ∀ w, (Instr.findKey 83 (keyV 0 2) es.toList).run Tryd.prog w = .ok none w := key_free 0 2 (by decide) (by decide) (fun e hem => by
    obtain ⟨q, hqm, k1, k2, _⟩ := hes e hem
    refine ⟨q.2.1, q.2.2.1, k2, ?_⟩
    simp [quoIns] at hqm
    rcases hqm with rfl | rfl | rfl | rfl | rfl | rfl | rfl | rfl <;> first | decide | (exfalso; rw [hl] at k1; cases k1))
  have hr := run_put (w := w) (val := .float .f64 0) Tryd.underlying54 he (key_ok 0 2) hf
  refine wpOp_s (w' := mset w B (es.push ⟨keyV 0 2, .float .f64 0, c⟩) (c + 1)) ho rfl ?_ (h.lay 10 0 2 0 (by decide) (by decide) d0 (by intro p hp; simp [quoVals] at hp; rcases hp with rfl | rfl | rfl | rfl | rfl | rfl | rfl | rfl | rfl | rfl | rfl | rfl | rfl | rfl | rfl | rfl <;> simp) (by intro q hq; simp [quoIns] at hq; rcases hq with rfl | rfl | rfl | rfl | rfl | rfl | rfl | rfl <;> simp) (by simp [quoIns]) he hB)
  simp only [execOp, Act.eval, v0, v1, Sem.run_bind, hr]
  rfl
theorem quo_step11 {B : Nat} {W0 : World} {D : List Deferred} {Q : Exit → Act → World → Prop} (hB : W0.heap.size = B) (listed : Array Bool) (a : Act) (w : World) (h : Fills 24 18 B W0 (.float .f64 9218868437227405312) D (quoVals B) quoIns listed a w) (h0 : listed.getD 11 true = false) (o : Oper) (ho : quoOps[11]? = some o) (hdep : ∀ e ∈ o.after, Region.binds .any e = true → listed.getD e.on false = true) :
    wpOp Tryd.prog quoOps Q 11 (fun a' w' => Fills 24 18 B W0 (.float .f64 9218868437227405312) D (quoVals B) quoIns (listed.setIfInBounds 11 true) a' w') a w := by
  have e := ho
  simp only [quoOps, Tryd.f42, List.getElem?_toArray, List.getElem?_cons_succ, List.getElem?_cons_zero, Option.some.injEq] at e
  subst e
  exact wpOp_v (v := keyV 2 0) ho rfl (by kernel_rfl) (h.put 11 10 _ (by decide) (by decide) (by decide) (by decide) (by intro p hp; simp [quoVals] at hp; rcases hp with rfl | rfl | rfl | rfl | rfl | rfl | rfl | rfl | rfl | rfl | rfl | rfl | rfl | rfl | rfl | rfl <;> simp) (by intro q hq; simp [quoIns] at hq; rcases hq with rfl | rfl | rfl | rfl | rfl | rfl | rfl | rfl <;> simp))
theorem quo_step12 {B : Nat} {W0 : World} {D : List Deferred} {Q : Exit → Act → World → Prop} (hB : W0.heap.size = B) (listed : Array Bool) (a : Act) (w : World) (h : Fills 24 18 B W0 (.float .f64 9218868437227405312) D (quoVals B) quoIns listed a w) (h0 : listed.getD 12 true = false) (o : Oper) (ho : quoOps[12]? = some o) (hdep : ∀ e ∈ o.after, Region.binds .any e = true → listed.getD e.on false = true) :
    wpOp Tryd.prog quoOps Q 12 (fun a' w' => Fills 24 18 B W0 (.float .f64 9218868437227405312) D (quoVals B) quoIns (listed.setIfInBounds 12 true) a' w') a w := by
  have e := ho
  simp only [quoOps, Tryd.f42, List.getElem?_toArray, List.getElem?_cons_succ, List.getElem?_cons_zero, Option.some.injEq] at e
  subst e
  exact wpOp_v (v := .float .f64 9218868437227405312) ho rfl (by rw [← h.inf]; rfl) (h.put 12 11 _ (by decide) (by decide) (by decide) (by decide) (by intro p hp; simp [quoVals] at hp; rcases hp with rfl | rfl | rfl | rfl | rfl | rfl | rfl | rfl | rfl | rfl | rfl | rfl | rfl | rfl | rfl | rfl <;> simp) (by intro q hq; simp [quoIns] at hq; rcases hq with rfl | rfl | rfl | rfl | rfl | rfl | rfl | rfl <;> simp))
theorem quo_step13 {B : Nat} {W0 : World} {D : List Deferred} {Q : Exit → Act → World → Prop} (hB : W0.heap.size = B) (listed : Array Bool) (a : Act) (w : World) (h : Fills 24 18 B W0 (.float .f64 9218868437227405312) D (quoVals B) quoIns listed a w) (h0 : listed.getD 13 true = false) (o : Oper) (ho : quoOps[13]? = some o) (hdep : ∀ e ∈ o.after, Region.binds .any e = true → listed.getD e.on false = true) :
    wpOp Tryd.prog quoOps Q 13 (fun a' w' => Fills 24 18 B W0 (.float .f64 9218868437227405312) D (quoVals B) quoIns (listed.setIfInBounds 13 true) a' w') a w := by
  have e := ho
  simp only [quoOps, Tryd.f42, List.getElem?_toArray, List.getElem?_cons_succ, List.getElem?_cons_zero, Option.some.injEq] at e
  subst e
  have d0 := hdep { on := 0, ground := .data } (by simp) rfl
  have d1 := hdep { on := 11, ground := .data } (by simp) rfl
  have v0 := h.val (0, 3, .map (some B)) (by simp [quoVals]) d0
  have v1 := h.val (11, 10, keyV 2 0) (by simp [quoVals]) d1
  have d2 := hdep { on := 12, ground := .data } (by simp) rfl
  have v2 := h.val (12, 11, .float .f64 9218868437227405312) (by simp [quoVals]) d2
  obtain ⟨es, c, he, hes, _⟩ := h.yes d0
  have hl : listed.getD 13 false = false := by
    have hs := h.size
    simp [hs] at h0 ⊢
    exact h0
  have hf : ∀ w, (Instr.findKey 83 (keyV 2 0) es.toList).run Tryd.prog w = .ok none w := key_free 2 0 (by decide) (by decide) (fun e hem => by
    obtain ⟨q, hqm, k1, k2, _⟩ := hes e hem
    refine ⟨q.2.1, q.2.2.1, k2, ?_⟩
    simp [quoIns] at hqm
    rcases hqm with rfl | rfl | rfl | rfl | rfl | rfl | rfl | rfl <;> first | decide | (exfalso; rw [hl] at k1; cases k1))
  have hr := run_put (w := w) (val := .float .f64 9218868437227405312) Tryd.underlying54 he (key_ok 2 0) hf
  refine wpOp_s (w' := mset w B (es.push ⟨keyV 2 0, .float .f64 9218868437227405312, c⟩) (c + 1)) ho rfl ?_ (h.lay 13 2 0 9218868437227405312 (by decide) (by decide) d0 (by intro p hp; simp [quoVals] at hp; rcases hp with rfl | rfl | rfl | rfl | rfl | rfl | rfl | rfl | rfl | rfl | rfl | rfl | rfl | rfl | rfl | rfl <;> simp) (by intro q hq; simp [quoIns] at hq; rcases hq with rfl | rfl | rfl | rfl | rfl | rfl | rfl | rfl <;> simp) (by simp [quoIns]) he hB)
  simp only [execOp, Act.eval, v0, v1, v2, Sem.run_bind, hr]
  rfl
theorem quo_step14 {B : Nat} {W0 : World} {D : List Deferred} {Q : Exit → Act → World → Prop} (hB : W0.heap.size = B) (listed : Array Bool) (a : Act) (w : World) (h : Fills 24 18 B W0 (.float .f64 9218868437227405312) D (quoVals B) quoIns listed a w) (h0 : listed.getD 14 true = false) (o : Oper) (ho : quoOps[14]? = some o) (hdep : ∀ e ∈ o.after, Region.binds .any e = true → listed.getD e.on false = true) :
    wpOp Tryd.prog quoOps Q 14 (fun a' w' => Fills 24 18 B W0 (.float .f64 9218868437227405312) D (quoVals B) quoIns (listed.setIfInBounds 14 true) a' w') a w := by
  have e := ho
  simp only [quoOps, Tryd.f42, List.getElem?_toArray, List.getElem?_cons_succ, List.getElem?_cons_zero, Option.some.injEq] at e
  subst e
  exact wpOp_v (v := keyV 1 2) ho rfl (by kernel_rfl) (h.put 14 12 _ (by decide) (by decide) (by decide) (by decide) (by intro p hp; simp [quoVals] at hp; rcases hp with rfl | rfl | rfl | rfl | rfl | rfl | rfl | rfl | rfl | rfl | rfl | rfl | rfl | rfl | rfl | rfl <;> simp) (by intro q hq; simp [quoIns] at hq; rcases hq with rfl | rfl | rfl | rfl | rfl | rfl | rfl | rfl <;> simp))
theorem quo_step15 {B : Nat} {W0 : World} {D : List Deferred} {Q : Exit → Act → World → Prop} (hB : W0.heap.size = B) (listed : Array Bool) (a : Act) (w : World) (h : Fills 24 18 B W0 (.float .f64 9218868437227405312) D (quoVals B) quoIns listed a w) (h0 : listed.getD 15 true = false) (o : Oper) (ho : quoOps[15]? = some o) (hdep : ∀ e ∈ o.after, Region.binds .any e = true → listed.getD e.on false = true) :
    wpOp Tryd.prog quoOps Q 15 (fun a' w' => Fills 24 18 B W0 (.float .f64 9218868437227405312) D (quoVals B) quoIns (listed.setIfInBounds 15 true) a' w') a w := by
  have e := ho
  simp only [quoOps, Tryd.f42, List.getElem?_toArray, List.getElem?_cons_succ, List.getElem?_cons_zero, Option.some.injEq] at e
  subst e
  have d0 := hdep { on := 0, ground := .data } (by simp) rfl
  have d1 := hdep { on := 14, ground := .data } (by simp) rfl
  have v0 := h.val (0, 3, .map (some B)) (by simp [quoVals]) d0
  have v1 := h.val (14, 12, keyV 1 2) (by simp [quoVals]) d1
  obtain ⟨es, c, he, hes, _⟩ := h.yes d0
  have hl : listed.getD 15 false = false := by
    have hs := h.size
    simp [hs] at h0 ⊢
    exact h0
  have hf : ∀ w, (Instr.findKey 83 (keyV 1 2) es.toList).run Tryd.prog w = .ok none w := key_free 1 2 (by decide) (by decide) (fun e hem => by
    obtain ⟨q, hqm, k1, k2, _⟩ := hes e hem
    refine ⟨q.2.1, q.2.2.1, k2, ?_⟩
    simp [quoIns] at hqm
    rcases hqm with rfl | rfl | rfl | rfl | rfl | rfl | rfl | rfl <;> first | decide | (exfalso; rw [hl] at k1; cases k1))
  have hr := run_put (w := w) (val := .float .f64 0) Tryd.underlying54 he (key_ok 1 2) hf
  refine wpOp_s (w' := mset w B (es.push ⟨keyV 1 2, .float .f64 0, c⟩) (c + 1)) ho rfl ?_ (h.lay 15 1 2 0 (by decide) (by decide) d0 (by intro p hp; simp [quoVals] at hp; rcases hp with rfl | rfl | rfl | rfl | rfl | rfl | rfl | rfl | rfl | rfl | rfl | rfl | rfl | rfl | rfl | rfl <;> simp) (by intro q hq; simp [quoIns] at hq; rcases hq with rfl | rfl | rfl | rfl | rfl | rfl | rfl | rfl <;> simp) (by simp [quoIns]) he hB)
  simp only [execOp, Act.eval, v0, v1, Sem.run_bind, hr]
  rfl
theorem quo_step16 {B : Nat} {W0 : World} {D : List Deferred} {Q : Exit → Act → World → Prop} (hB : W0.heap.size = B) (listed : Array Bool) (a : Act) (w : World) (h : Fills 24 18 B W0 (.float .f64 9218868437227405312) D (quoVals B) quoIns listed a w) (h0 : listed.getD 16 true = false) (o : Oper) (ho : quoOps[16]? = some o) (hdep : ∀ e ∈ o.after, Region.binds .any e = true → listed.getD e.on false = true) :
    wpOp Tryd.prog quoOps Q 16 (fun a' w' => Fills 24 18 B W0 (.float .f64 9218868437227405312) D (quoVals B) quoIns (listed.setIfInBounds 16 true) a' w') a w := by
  have e := ho
  simp only [quoOps, Tryd.f42, List.getElem?_toArray, List.getElem?_cons_succ, List.getElem?_cons_zero, Option.some.injEq] at e
  subst e
  exact wpOp_v (v := keyV 2 1) ho rfl (by kernel_rfl) (h.put 16 13 _ (by decide) (by decide) (by decide) (by decide) (by intro p hp; simp [quoVals] at hp; rcases hp with rfl | rfl | rfl | rfl | rfl | rfl | rfl | rfl | rfl | rfl | rfl | rfl | rfl | rfl | rfl | rfl <;> simp) (by intro q hq; simp [quoIns] at hq; rcases hq with rfl | rfl | rfl | rfl | rfl | rfl | rfl | rfl <;> simp))
theorem quo_step17 {B : Nat} {W0 : World} {D : List Deferred} {Q : Exit → Act → World → Prop} (hB : W0.heap.size = B) (listed : Array Bool) (a : Act) (w : World) (h : Fills 24 18 B W0 (.float .f64 9218868437227405312) D (quoVals B) quoIns listed a w) (h0 : listed.getD 17 true = false) (o : Oper) (ho : quoOps[17]? = some o) (hdep : ∀ e ∈ o.after, Region.binds .any e = true → listed.getD e.on false = true) :
    wpOp Tryd.prog quoOps Q 17 (fun a' w' => Fills 24 18 B W0 (.float .f64 9218868437227405312) D (quoVals B) quoIns (listed.setIfInBounds 17 true) a' w') a w := by
  have e := ho
  simp only [quoOps, Tryd.f42, List.getElem?_toArray, List.getElem?_cons_succ, List.getElem?_cons_zero, Option.some.injEq] at e
  subst e
  exact wpOp_v (v := .float .f64 9218868437227405312) ho rfl (by rw [← h.inf]; rfl) (h.put 17 14 _ (by decide) (by decide) (by decide) (by decide) (by intro p hp; simp [quoVals] at hp; rcases hp with rfl | rfl | rfl | rfl | rfl | rfl | rfl | rfl | rfl | rfl | rfl | rfl | rfl | rfl | rfl | rfl <;> simp) (by intro q hq; simp [quoIns] at hq; rcases hq with rfl | rfl | rfl | rfl | rfl | rfl | rfl | rfl <;> simp))
theorem quo_step18 {B : Nat} {W0 : World} {D : List Deferred} {Q : Exit → Act → World → Prop} (hB : W0.heap.size = B) (listed : Array Bool) (a : Act) (w : World) (h : Fills 24 18 B W0 (.float .f64 9218868437227405312) D (quoVals B) quoIns listed a w) (h0 : listed.getD 18 true = false) (o : Oper) (ho : quoOps[18]? = some o) (hdep : ∀ e ∈ o.after, Region.binds .any e = true → listed.getD e.on false = true) :
    wpOp Tryd.prog quoOps Q 18 (fun a' w' => Fills 24 18 B W0 (.float .f64 9218868437227405312) D (quoVals B) quoIns (listed.setIfInBounds 18 true) a' w') a w := by
  have e := ho
  simp only [quoOps, Tryd.f42, List.getElem?_toArray, List.getElem?_cons_succ, List.getElem?_cons_zero, Option.some.injEq] at e
  subst e
  have d0 := hdep { on := 0, ground := .data } (by simp) rfl
  have d1 := hdep { on := 16, ground := .data } (by simp) rfl
  have v0 := h.val (0, 3, .map (some B)) (by simp [quoVals]) d0
  have v1 := h.val (16, 13, keyV 2 1) (by simp [quoVals]) d1
  have d2 := hdep { on := 17, ground := .data } (by simp) rfl
  have v2 := h.val (17, 14, .float .f64 9218868437227405312) (by simp [quoVals]) d2
  obtain ⟨es, c, he, hes, _⟩ := h.yes d0
  have hl : listed.getD 18 false = false := by
    have hs := h.size
    simp [hs] at h0 ⊢
    exact h0
  have hf : ∀ w, (Instr.findKey 83 (keyV 2 1) es.toList).run Tryd.prog w = .ok none w := key_free 2 1 (by decide) (by decide) (fun e hem => by
    obtain ⟨q, hqm, k1, k2, _⟩ := hes e hem
    refine ⟨q.2.1, q.2.2.1, k2, ?_⟩
    simp [quoIns] at hqm
    rcases hqm with rfl | rfl | rfl | rfl | rfl | rfl | rfl | rfl <;> first | decide | (exfalso; rw [hl] at k1; cases k1))
  have hr := run_put (w := w) (val := .float .f64 9218868437227405312) Tryd.underlying54 he (key_ok 2 1) hf
  refine wpOp_s (w' := mset w B (es.push ⟨keyV 2 1, .float .f64 9218868437227405312, c⟩) (c + 1)) ho rfl ?_ (h.lay 18 2 1 9218868437227405312 (by decide) (by decide) d0 (by intro p hp; simp [quoVals] at hp; rcases hp with rfl | rfl | rfl | rfl | rfl | rfl | rfl | rfl | rfl | rfl | rfl | rfl | rfl | rfl | rfl | rfl <;> simp) (by intro q hq; simp [quoIns] at hq; rcases hq with rfl | rfl | rfl | rfl | rfl | rfl | rfl | rfl <;> simp) (by simp [quoIns]) he hB)
  simp only [execOp, Act.eval, v0, v1, v2, Sem.run_bind, hr]
  rfl
theorem quo_step19 {B : Nat} {W0 : World} {D : List Deferred} {Q : Exit → Act → World → Prop} (hB : W0.heap.size = B) (listed : Array Bool) (a : Act) (w : World) (h : Fills 24 18 B W0 (.float .f64 9218868437227405312) D (quoVals B) quoIns listed a w) (h0 : listed.getD 19 true = false) (o : Oper) (ho : quoOps[19]? = some o) (hdep : ∀ e ∈ o.after, Region.binds .any e = true → listed.getD e.on false = true) :
    wpOp Tryd.prog quoOps Q 19 (fun a' w' => Fills 24 18 B W0 (.float .f64 9218868437227405312) D (quoVals B) quoIns (listed.setIfInBounds 19 true) a' w') a w := by
  have e := ho
  simp only [quoOps, Tryd.f42, List.getElem?_toArray, List.getElem?_cons_succ, List.getElem?_cons_zero, Option.some.injEq] at e
  subst e
  exact wpOp_v (v := keyV 2 2) ho rfl (by kernel_rfl) (h.put 19 15 _ (by decide) (by decide) (by decide) (by decide) (by intro p hp; simp [quoVals] at hp; rcases hp with rfl | rfl | rfl | rfl | rfl | rfl | rfl | rfl | rfl | rfl | rfl | rfl | rfl | rfl | rfl | rfl <;> simp) (by intro q hq; simp [quoIns] at hq; rcases hq with rfl | rfl | rfl | rfl | rfl | rfl | rfl | rfl <;> simp))
theorem quo_step20 {B : Nat} {W0 : World} {D : List Deferred} {Q : Exit → Act → World → Prop} (hB : W0.heap.size = B) (listed : Array Bool) (a : Act) (w : World) (h : Fills 24 18 B W0 (.float .f64 9218868437227405312) D (quoVals B) quoIns listed a w) (h0 : listed.getD 20 true = false) (o : Oper) (ho : quoOps[20]? = some o) (hdep : ∀ e ∈ o.after, Region.binds .any e = true → listed.getD e.on false = true) :
    wpOp Tryd.prog quoOps Q 20 (fun a' w' => Fills 24 18 B W0 (.float .f64 9218868437227405312) D (quoVals B) quoIns (listed.setIfInBounds 20 true) a' w') a w := by
  have e := ho
  simp only [quoOps, Tryd.f42, List.getElem?_toArray, List.getElem?_cons_succ, List.getElem?_cons_zero, Option.some.injEq] at e
  subst e
  refine wpOp_c (f := 31) (args := #[]) (w' := w) ho rfl (by kernel_rfl) ?_
  refine (snan_any _).mono ?_
  rintro z w' ⟨rfl, rfl⟩
  exact ⟨.float .f64 9221120237041090560, rfl, h.put 20 16 _ (by decide) (by decide) (by decide) (by decide) (by intro p hp; simp [quoVals] at hp; rcases hp with rfl | rfl | rfl | rfl | rfl | rfl | rfl | rfl | rfl | rfl | rfl | rfl | rfl | rfl | rfl | rfl <;> simp) (by intro q hq; simp [quoIns] at hq; rcases hq with rfl | rfl | rfl | rfl | rfl | rfl | rfl | rfl <;> simp)⟩
theorem quo_step21 {B : Nat} {W0 : World} {D : List Deferred} {Q : Exit → Act → World → Prop} (hB : W0.heap.size = B) (listed : Array Bool) (a : Act) (w : World) (h : Fills 24 18 B W0 (.float .f64 9218868437227405312) D (quoVals B) quoIns listed a w) (h0 : listed.getD 21 true = false) (o : Oper) (ho : quoOps[21]? = some o) (hdep : ∀ e ∈ o.after, Region.binds .any e = true → listed.getD e.on false = true) :
    wpOp Tryd.prog quoOps Q 21 (fun a' w' => Fills 24 18 B W0 (.float .f64 9218868437227405312) D (quoVals B) quoIns (listed.setIfInBounds 21 true) a' w') a w := by
  have e := ho
  simp only [quoOps, Tryd.f42, List.getElem?_toArray, List.getElem?_cons_succ, List.getElem?_cons_zero, Option.some.injEq] at e
  subst e
  have d0 := hdep { on := 0, ground := .data } (by simp) rfl
  have d1 := hdep { on := 19, ground := .data } (by simp) rfl
  have v0 := h.val (0, 3, .map (some B)) (by simp [quoVals]) d0
  have v1 := h.val (19, 15, keyV 2 2) (by simp [quoVals]) d1
  have d2 := hdep { on := 20, ground := .data } (by simp) rfl
  have v2 := h.val (20, 16, .float .f64 9221120237041090560) (by simp [quoVals]) d2
  obtain ⟨es, c, he, hes, _⟩ := h.yes d0
  have hl : listed.getD 21 false = false := by
    have hs := h.size
    simp [hs] at h0 ⊢
    exact h0
  have hf : ∀ w, (Instr.findKey 83 (keyV 2 2) es.toList).run Tryd.prog w = .ok none w := key_free 2 2 (by decide) (by decide) (fun e hem => by
    obtain ⟨q, hqm, k1, k2, _⟩ := hes e hem
    refine ⟨q.2.1, q.2.2.1, k2, ?_⟩
    simp [quoIns] at hqm
    rcases hqm with rfl | rfl | rfl | rfl | rfl | rfl | rfl | rfl <;> first | decide | (exfalso; rw [hl] at k1; cases k1))
  have hr := run_put (w := w) (val := .float .f64 9221120237041090560) Tryd.underlying54 he (key_ok 2 2) hf
  refine wpOp_s (w' := mset w B (es.push ⟨keyV 2 2, .float .f64 9221120237041090560, c⟩) (c + 1)) ho rfl ?_ (h.lay 21 2 2 9221120237041090560 (by decide) (by decide) d0 (by intro p hp; simp [quoVals] at hp; rcases hp with rfl | rfl | rfl | rfl | rfl | rfl | rfl | rfl | rfl | rfl | rfl | rfl | rfl | rfl | rfl | rfl <;> simp) (by intro q hq; simp [quoIns] at hq; rcases hq with rfl | rfl | rfl | rfl | rfl | rfl | rfl | rfl <;> simp) (by simp [quoIns]) he hB)
  simp only [execOp, Act.eval, v0, v1, v2, Sem.run_bind, hr]
  rfl
theorem quo_step22 {B : Nat} {W0 : World} {D : List Deferred} {Q : Exit → Act → World → Prop} (hB : W0.heap.size = B) (listed : Array Bool) (a : Act) (w : World) (h : Fills 24 18 B W0 (.float .f64 9218868437227405312) D (quoVals B) quoIns listed a w) (h0 : listed.getD 22 true = false) (o : Oper) (ho : quoOps[22]? = some o) (hdep : ∀ e ∈ o.after, Region.binds .any e = true → listed.getD e.on false = true) :
    wpOp Tryd.prog quoOps Q 22 (fun a' w' => Fills 24 18 B W0 (.float .f64 9218868437227405312) D (quoVals B) quoIns (listed.setIfInBounds 22 true) a' w') a w := by
  have e := ho
  simp only [quoOps, Tryd.f42, List.getElem?_toArray, List.getElem?_cons_succ, List.getElem?_cons_zero, Option.some.injEq] at e
  subst e
  have d0 := hdep { on := 0, ground := .data } (by simp) rfl
  have v0 : a.tmps.getD 3 undef = .map (some B) := h.val (0, 3, .map (some B)) (by simp [quoVals]) d0
  exact wpOp_v (v := a.tmps.getD 3 undef) ho rfl rfl (by rw [v0]; exact h.put 22 17 _ (by decide) (by decide) (by decide) (by decide) (by intro p hp; simp [quoVals] at hp; rcases hp with rfl | rfl | rfl | rfl | rfl | rfl | rfl | rfl | rfl | rfl | rfl | rfl | rfl | rfl | rfl | rfl <;> simp) (by intro q hq; simp [quoIns] at hq; rcases hq with rfl | rfl | rfl | rfl | rfl | rfl | rfl | rfl <;> simp))
theorem quo_step23 {B : Nat} {W0 : World} {D : List Deferred} {Q : Exit → Act → World → Prop} (hB : W0.heap.size = B) (listed : Array Bool) (a : Act) (w : World) (h : Fills 24 18 B W0 (.float .f64 9218868437227405312) D (quoVals B) quoIns listed a w) (h0 : listed.getD 23 true = false) (o : Oper) (ho : quoOps[23]? = some o) (hdep : ∀ e ∈ o.after, Region.binds .any e = true → listed.getD e.on false = true) :
    wpOp Tryd.prog quoOps Q 23 (fun a' w' => Fills 24 18 B W0 (.float .f64 9218868437227405312) D (quoVals B) quoIns (listed.setIfInBounds 23 true) a' w') a w := by
  have e := ho
  simp only [quoOps, Tryd.f42, List.getElem?_toArray, List.getElem?_cons_succ, List.getElem?_cons_zero, Option.some.injEq] at e
  subst e
  have d0 := hdep { on := 22, ground := .data } (by simp) rfl
  have v0 : a.tmps.getD 17 undef = .map (some B) := h.val (22, 17, .map (some B)) (by simp [quoVals]) d0
  exact wpOp_v (v := a.tmps.getD 17 undef) ho rfl rfl (by rw [v0]; exact h.put 23 0 _ (by decide) (by decide) (by decide) (by decide) (by intro p hp; simp [quoVals] at hp; rcases hp with rfl | rfl | rfl | rfl | rfl | rfl | rfl | rfl | rfl | rfl | rfl | rfl | rfl | rfl | rfl | rfl <;> simp) (by intro q hq; simp [quoIns] at hq; rcases hq with rfl | rfl | rfl | rfl | rfl | rfl | rfl | rfl <;> simp))
theorem quo_step {B : Nat} {W0 : World} {D : List Deferred} {Q : Exit → Act → World → Prop} (hB : W0.heap.size = B) (listed : Array Bool) (a : Act) (w : World) (i : Nat) (h : Fills 24 18 B W0 (.float .f64 9218868437227405312) D (quoVals B) quoIns listed a w) (hr : i ∈ Region.ready .any quoOps listed) :
    wpOp Tryd.prog quoOps Q i (fun a' w' => Fills 24 18 B W0 (.float .f64 9218868437227405312) D (quoVals B) quoIns (listed.setIfInBounds i true) a' w') a w := by
  obtain ⟨h0, o, ho, hdep⟩ := mem_ready.1 hr
  have hi : i < 24 := (Array.getElem?_eq_some_iff.1 ho).1
  have hc : i = 0 ∨ i = 1 ∨ i = 2 ∨ i = 3 ∨ i = 4 ∨ i = 5 ∨ i = 6 ∨ i = 7 ∨ i = 8 ∨ i = 9 ∨ i = 10 ∨ i = 11 ∨ i = 12 ∨ i = 13 ∨ i = 14 ∨ i = 15 ∨ i = 16 ∨ i = 17 ∨ i = 18 ∨ i = 19 ∨ i = 20 ∨ i = 21 ∨ i = 22 ∨ i = 23 := by omega
  rcases hc with rfl | rfl | rfl | rfl | rfl | rfl | rfl | rfl | rfl | rfl | rfl | rfl | rfl | rfl | rfl | rfl | rfl | rfl | rfl | rfl | rfl | rfl | rfl | rfl
  · exact quo_step0 hB listed a w h h0 o ho hdep
  · exact quo_step1 hB listed a w h h0 o ho hdep
  · exact quo_step2 hB listed a w h h0 o ho hdep
  · exact quo_step3 hB listed a w h h0 o ho hdep
  · exact quo_step4 hB listed a w h h0 o ho hdep
  · exact quo_step5 hB listed a w h h0 o ho hdep
  · exact quo_step6 hB listed a w h h0 o ho hdep
  · exact quo_step7 hB listed a w h h0 o ho hdep
  · exact quo_step8 hB listed a w h h0 o ho hdep
  · exact quo_step9 hB listed a w h h0 o ho hdep
  · exact quo_step10 hB listed a w h h0 o ho hdep
  · exact quo_step11 hB listed a w h h0 o ho hdep
  · exact quo_step12 hB listed a w h h0 o ho hdep
  · exact quo_step13 hB listed a w h h0 o ho hdep
  · exact quo_step14 hB listed a w h h0 o ho hdep
  · exact quo_step15 hB listed a w h h0 o ho hdep
  · exact quo_step16 hB listed a w h h0 o ho hdep
  · exact quo_step17 hB listed a w h h0 o ho hdep
  · exact quo_step18 hB listed a w h h0 o ho hdep
  · exact quo_step19 hB listed a w h h0 o ho hdep
  · exact quo_step20 hB listed a w h h0 o ho hdep
  · exact quo_step21 hB listed a w h h0 o ho hdep
  · exact quo_step22 hB listed a w h h0 o ho hdep
  · exact quo_step23 hB listed a w h h0 o ho hdep
theorem quo_any (w : World) : Calls Tryd.prog 42 #[] w fun z w' => ∃ es c, z = .returned (.map (some w.heap.size)) ∧ Below w.heap.size w w' ∧ w'.heap[w.heap.size]? = some (.map es c) ∧ TabE quoIns es := by
  go_enter Tryd.func42, Tryd.ntmps42
  go_wp2_with fail
  refine (inf_any _).mono ?_
  rintro z w' ⟨rfl, rfl⟩
  go_wp2_with fail
  refine wp_region_any (by kernel_rfl) ?_
  refine wpAny_inv (ops := quoOps) (Inv := Fills 24 18 w.heap.size w.drew (.float .f64 9218868437227405312) [] (quoVals w.heap.size) quoIns) ?fin (fun listed a wx i h hr => quo_step (B := w.heap.size) (W0 := w.drew) rfl listed a wx i h hr) 24 _ _ _ (by decide +kernel) ?start
  case start =>
    refine ⟨rfl, rfl, rfl, rfl, fun p hp hl => ?_, fun _ => rfl, Below.refl _ _, fun hl => ?_, fun _ q hq => ?_⟩
    · simp [quoVals] at hp
      rcases hp with rfl | rfl | rfl | rfl | rfl | rfl | rfl | rfl | rfl | rfl | rfl | rfl | rfl | rfl | rfl | rfl <;> cases hl
    · cases hl
    · simp [quoIns] at hq
      rcases hq with rfl | rfl | rfl | rfl | rfl | rfl | rfl | rfl <;> rfl
  case fin =>
    intro listed a w1 h hr
    have hl := all_listed h.size quo_hops hr
    obtain ⟨es, c, h1, h2, h3⟩ := h.yes (hl 0 (by decide))
    have h4 := h.val (23, 0, .map (some w.heap.size)) (by simp [quoVals]) (hl 23 (by decide))
    have hT : TabE quoIns es := ⟨fun e he => by obtain ⟨q, k1, k2, k3⟩ := h2 e he; exact ⟨q, k1, k3⟩, fun q hq => h3 q hq (by simp [quoIns] at hq; rcases hq with rfl | rfl | rfl | rfl | rfl | rfl | rfl | rfl <;> exact hl _ (by decide))⟩
    have hB := h.below
    have hB' : Below w.heap.size w w1 := ((Below.refl w.heap.size w).drew).trans hB
    clear h2 h3 hl hr
    obtain ⟨tm, df⟩ := a
    obtain rfl : df = [] := h.dfr
    go_wp2_with fail
    go_ret
    exact ⟨congrArg Ending.returned h4, hB', es, ⟨c, h1⟩, hT⟩
end Go.Proofs.YtjlaadadbpffdaaDoor

namespace Go.Plumb
open Go.RowKit
/-- What a table tells. -/
def tabB (ins : List (Nat × Int × Int × Nat)) (a b : Int) : Option Nat := (ins.find? fun q => q.2.1 == a && q.2.2.1 == b).map fun q => q.2.2.2
def onceB (ins : List (Nat × Int × Int × Nat)) : Bool := ins.all fun q => tabB ins q.2.1 q.2.2.1 == some q.2.2.2 && decide (q.2.1 = 0 ∨ q.2.1 = 1 ∨ q.2.1 = 2 ∨ q.2.1 = 3) && decide (q.2.2.1 = 0 ∨ q.2.2.1 = 1 ∨ q.2.2.1 = 2 ∨ q.2.2.1 = 3)
theorem tabB_mem {ins : List (Nat × Int × Int × Nat)} {a b : Int} {z : Nat} (h : tabB ins a b = some z) : ∃ q ∈ ins, q.2.1 = a ∧ q.2.2.1 = b ∧ q.2.2.2 = z := by
  unfold tabB at h
  cases hf : ins.find? fun q => q.2.1 == a && q.2.2.1 == b with
  | none => rw [hf] at h; cases h
  | some q =>
    rw [hf] at h
    have h1 := List.find?_some hf
    have h2 := List.mem_of_find?_eq_some hf
    simp at h1 h
    exact ⟨q, h2, h1.1, h1.2, h⟩
theorem tabB_none {ins : List (Nat × Int × Int × Nat)} {a b : Int} (h : tabB ins a b = none) : ∀ q ∈ ins, (a == q.2.1 && b == q.2.2.1) = false := by
  intro q hq
  unfold tabB at h
  have h1 := List.find?_eq_none.1 (Option.map_eq_none_iff.1 h) q hq
  simp at h1
  cases hc : (a == q.2.1 && b == q.2.2.1) with
  | false => rfl
  | true =>
    simp at hc
    exact absurd hc.2.symm (h1 hc.1.symm)
end Go.Plumb
namespace Go.Proofs.YtjlaadadbpffdaaDoor
open Go.RowKit Go.Plumb
theorem zero_f64 (w : World) : (zeroValue 24).run Tryd.prog w = .ok (.float .f64 0) w := by kernel_rfl
theorem look_any {ins : List (Nat × Int × Int × Nat)} {es : Array MapEntry} {c g : Nat} {w : World} (hb : w.heap[g]? = some (.map es c)) (hE : TabE ins es) (ho : onceB ins = true) (hne : ins ≠ []) (a b : Int) (ha : smallK a) (hb' : smallK b) :
    (Instr.lookup 54 (.map (some g)) (keyV a b) true).run Tryd.prog w = .ok (.tuple #[.float .f64 ((tabB ins a b).getD 0), .bool (tabB ins a b).isSome]) w := by
  have hk : ∀ q ∈ ins, tabB ins q.2.1 q.2.2.1 = some q.2.2.2 ∧ smallK q.2.1 ∧ smallK q.2.2.1 := by
    intro q hq
    have := List.all_eq_true.1 ho q hq
    simp only [Bool.and_eq_true, beq_iff_eq, decide_eq_true_eq] at this
    exact ⟨this.1.1, this.1.2, this.2⟩
  have hn : es.isEmpty = false := by
    obtain ⟨q, hq⟩ := List.exists_mem_of_ne_nil ins hne
    obtain ⟨e, he, _⟩ := hE.2 q hq
    cases h : es.isEmpty with
    | false => rfl
    | true =>
      rw [Array.isEmpty_iff] at h
      rw [h] at he
      cases he
  cases ht : tabB ins a b with
  | some z =>
    obtain ⟨q, hq, q1, q2, q3⟩ := tabB_mem ht
    obtain ⟨j, hj⟩ := findKey_some (P := Tryd.prog) (K := 83) (key := keyV a b) (v := .float .f64 z) (l := es.toList) Tryd.underlying83 (key_now a b) (fun e he => by
      obtain ⟨p, hp, k1, k2⟩ := hE.1 e he
      obtain ⟨p1, p2, p3⟩ := hk p hp
      rw [k1]
      cases hc : (a == p.2.1 && b == p.2.2.1) with
      | false => left; intro w; rw [key_eq _ _ _ _ ha hb' p2 p3, hc]
      | true =>
        right
        simp at hc
        rw [← hc.1, ← hc.2, ht] at p1
        refine ⟨by rw [k2, Option.some.inj p1], fun w => ?_⟩
        rw [← hc.1, ← hc.2, key_eq _ _ _ _ ha hb' ha hb']
        simp) (by
      obtain ⟨e, he, k1, k2⟩ := hE.2 q hq
      refine ⟨e, he, fun w => ?_⟩
      rw [k1, q1, q2, key_eq _ _ _ _ ha hb' ha hb']
      simp)
    exact run_got Tryd.underlying54 hb hn (key_ok a b) hj
  | none =>
    have hf := key_free a b ha hb' (l := es.toList) (fun e he => by
      obtain ⟨p, hp, k1, k2⟩ := hE.1 e he
      obtain ⟨p1, p2, p3⟩ := hk p hp
      exact ⟨_, _, k1, p2, p3, tabB_none ht p hp⟩)
    exact run_miss Tryd.underlying54 zero_f64 hb hn (key_ok a b) hf
theorem cls_small (x : Nat) : smallK (clsI x) := by
  rcases cls_cases x with h | h | h | h <;> rw [h] <;> decide
section
variable {w : World}
set_option maxHeartbeats 1000000 in
set_option maxRecDepth 20000 in
theorem told_mul {ins : List (Nat × Int × Int × Nat)} {es : Array MapEntry} {c g : Nat} {T : Int → Int → Option Nat} (hb : w.heap[g]? = some (.map es c)) (hE : TabE ins es) (ho : onceB ins = true) (hne : ins ≠ []) (hTab : ∀ a b, smallK a → smallK b → tabB ins a b = T a b) (hT3 : ∀ a b, a = 3 ∨ b = 3 → T a b = none) (hTl : ∀ a b z, T a b = some z → z < 18446744073709551616)
    (g1 g2 : Nat) (x y d : Nat) (hx : x < 18446744073709551616) (hy : y < 18446744073709551616) (hdo : T (clsI x) (clsI y) = none → clsI x ≠ 3 → clsI y ≠ 3 → Calls Tryd.prog 40 #[.pointer (some ⟨g1, 0, none⟩), .pointer (some ⟨g2, 0, none⟩)] w fun z w' => z = .returned (.float .f64 d) ∧ Below w.heap.size w w') :
    Calls Tryd.prog 38 #[.map (some g), .float .f64 x, .float .f64 y, .func (.func 40) #[] #[.pointer (some ⟨g1, 0, none⟩), .pointer (some ⟨g2, 0, none⟩)]] w fun z w' => z = .returned (.float .f64 (toldW T x y d)) ∧ Below w.heap.size w w' := by
  have hL := look_any hb hE ho hne (clsI x) (clsI y) (cls_small x) (cls_small y)
  rw [hTab _ _ (cls_small x) (cls_small y)] at hL
  have e0 : ∀ a b, keyV a b = .agg #[.int .i64 a, .int .i64 b] := fun _ _ => rfl
  rw [e0] at hL
  have h3 := hT3 (clsI x) (clsI y)
  have hl := hTl (clsI x) (clsI y)
  unfold toldW
  obtain ⟨a, ha⟩ : ∃ a, clsI x = a := ⟨_, rfl⟩
  obtain ⟨b, hb2⟩ : ∃ b, clsI y = b := ⟨_, rfl⟩
  have C1 := fun w => cls_v x a ha w hx
  have C2 := fun w => cls_v y b hb2 w hy
  obtain ⟨n1, hn1⟩ : ∃ b, negW x = b := ⟨_, rfl⟩
  obtain ⟨n2, hn2⟩ : ∃ b, negW y = b := ⟨_, rfl⟩
  have M1 := fun (h3 : a ≠ 3) w => minus_v x n1 (by rw [ha]; exact h3) hn1 w hx
  have M2 := fun (h3 : b ≠ 3) w => minus_v y n2 (by rw [hb2]; exact h3) hn2 w hy
  rw [hn1, hn2]
  simp only [ha, hb2] at hL h3 hl hdo ⊢
  clear ha hb2 hn1 hn2 hb hE ho hne hTab hT3 hTl e0
  obtain ⟨t, ht⟩ : ∃ t, T a b = t := ⟨_, rfl⟩
  rw [ht] at hL h3 hl hdo ⊢
  clear ht
  by_cases p1 : a = 3
  · subst p1
    obtain rfl : t = none := h3 (.inl rfl)
    rw [if_pos (.inl rfl)]
    simp only [Option.getD_none, Option.isSome_none] at hL
    clear h3 hl hdo M1 M2
    go_enter Tryd.func38, Tryd.ntmps38
    go_wp2_with fail
    refine (C1 _).mono ?_
    rintro z w' ⟨rfl, rfl⟩
    go_wp2_with fail
    refine (C2 _).mono ?_
    rintro z w' ⟨rfl, rfl⟩
    go_wp2_with fail
    refine (snan_any _).mono ?_
    rintro z w' ⟨rfl, rfl⟩
    go_wp2_with fail
    go_ret
    exact ⟨rfl, Below.refl _ _⟩
  · by_cases p2 : b = 3
    · subst p2
      obtain rfl : t = none := h3 (.inr rfl)
      rw [if_pos (.inr rfl)]
      simp only [Option.getD_none, Option.isSome_none] at hL
      clear h3 hl hdo M1 M2
      go_enter Tryd.func38, Tryd.ntmps38
      go_wp2_with fail
      refine (C1 _).mono ?_
      rintro z w' ⟨rfl, rfl⟩
      go_wp2_with fail
      refine (C2 _).mono ?_
      rintro z w' ⟨rfl, rfl⟩
      go_wp2_with fail
      refine (snan_any _).mono ?_
      rintro z w' ⟨rfl, rfl⟩
      go_wp2_with fail
      go_ret
      exact ⟨rfl, Below.refl _ _⟩
    · rw [if_neg (fun h => h.elim p1 p2)]
      cases t with
      | some z =>
        have S := fun w => signed_any z (n1 != n2) w (hl z rfl)
        have M1 := M1 p1
        have M2 := M2 p2
        have q1 : (a == 3) = false := by simp [p1]
        have q2 : (b == 3) = false := by simp [p2]
        clear p1 p2
        simp only [Option.getD_some, Option.isSome_some] at hL ⊢
        generalize sgnW z (n1 != n2) = R at S ⊢
        clear h3 hl hdo
        go_enter Tryd.func38, Tryd.ntmps38
        go_wp2_with fail
        refine (C1 _).mono ?_
        rintro z w' ⟨rfl, rfl⟩
        go_wp2_with fail
        refine (C2 _).mono ?_
        rintro z w' ⟨rfl, rfl⟩
        go_wp2_with fail
        refine (M1 _).mono ?_
        rintro z w' ⟨rfl, rfl⟩
        go_wp2_with fail
        refine (M2 _).mono ?_
        rintro z w' ⟨rfl, rfl⟩
        go_wp2_with fail
        refine (S _).mono ?_
        rintro z w' ⟨rfl, rfl⟩
        go_wp2_with fail
        go_ret
        exact ⟨rfl, Below.refl _ _⟩
      | none =>
        have hD := hdo rfl p1 p2
        have q1 : (a == 3) = false := by simp [p1]
        have q2 : (b == 3) = false := by simp [p2]
        clear p1 p2 hdo
        simp only [Option.getD_none, Option.isSome_none] at hL ⊢
        clear h3 hl M1 M2
        go_enter Tryd.func38, Tryd.ntmps38
        go_wp2_with fail
        refine (C1 _).mono ?_
        rintro z w' ⟨rfl, rfl⟩
        go_wp2_with fail
        refine (C2 _).mono ?_
        rintro z w' ⟨rfl, rfl⟩
        go_wp2_with fail
        refine hD.mono ?_
        rintro z w' ⟨rfl, hb⟩
        go_wp2_with fail
        go_ret
        exact ⟨rfl, hb⟩
set_option maxHeartbeats 1000000 in
set_option maxRecDepth 20000 in
theorem told_div {ins : List (Nat × Int × Int × Nat)} {es : Array MapEntry} {c g : Nat} {T : Int → Int → Option Nat} (hb : w.heap[g]? = some (.map es c)) (hE : TabE ins es) (ho : onceB ins = true) (hne : ins ≠ []) (hTab : ∀ a b, smallK a → smallK b → tabB ins a b = T a b) (hT3 : ∀ a b, a = 3 ∨ b = 3 → T a b = none) (hTl : ∀ a b z, T a b = some z → z < 18446744073709551616)
    (g1 g2 : Nat) (x y d : Nat) (hx : x < 18446744073709551616) (hy : y < 18446744073709551616) (hdo : T (clsI x) (clsI y) = none → clsI x ≠ 3 → clsI y ≠ 3 → Calls Tryd.prog 43 #[.pointer (some ⟨g1, 0, none⟩), .pointer (some ⟨g2, 0, none⟩)] w fun z w' => z = .returned (.float .f64 d) ∧ Below w.heap.size w w') :
    Calls Tryd.prog 38 #[.map (some g), .float .f64 x, .float .f64 y, .func (.func 43) #[] #[.pointer (some ⟨g1, 0, none⟩), .pointer (some ⟨g2, 0, none⟩)]] w fun z w' => z = .returned (.float .f64 (toldW T x y d)) ∧ Below w.heap.size w w' := by
  have hL := look_any hb hE ho hne (clsI x) (clsI y) (cls_small x) (cls_small y)
  rw [hTab _ _ (cls_small x) (cls_small y)] at hL
  have e0 : ∀ a b, keyV a b = .agg #[.int .i64 a, .int .i64 b] := fun _ _ => rfl
  rw [e0] at hL
  have h3 := hT3 (clsI x) (clsI y)
  have hl := hTl (clsI x) (clsI y)
  unfold toldW
  obtain ⟨a, ha⟩ : ∃ a, clsI x = a := ⟨_, rfl⟩
  obtain ⟨b, hb2⟩ : ∃ b, clsI y = b := ⟨_, rfl⟩
  have C1 := fun w => cls_v x a ha w hx
  have C2 := fun w => cls_v y b hb2 w hy
  obtain ⟨n1, hn1⟩ : ∃ b, negW x = b := ⟨_, rfl⟩
  obtain ⟨n2, hn2⟩ : ∃ b, negW y = b := ⟨_, rfl⟩
  have M1 := fun (h3 : a ≠ 3) w => minus_v x n1 (by rw [ha]; exact h3) hn1 w hx
  have M2 := fun (h3 : b ≠ 3) w => minus_v y n2 (by rw [hb2]; exact h3) hn2 w hy
  rw [hn1, hn2]
  simp only [ha, hb2] at hL h3 hl hdo ⊢
  clear ha hb2 hn1 hn2 hb hE ho hne hTab hT3 hTl e0
  obtain ⟨t, ht⟩ : ∃ t, T a b = t := ⟨_, rfl⟩
  rw [ht] at hL h3 hl hdo ⊢
  clear ht
  by_cases p1 : a = 3
  · subst p1
    obtain rfl : t = none := h3 (.inl rfl)
    rw [if_pos (.inl rfl)]
    simp only [Option.getD_none, Option.isSome_none] at hL
    clear h3 hl hdo M1 M2
    go_enter Tryd.func38, Tryd.ntmps38
    go_wp2_with fail
    refine (C1 _).mono ?_
    rintro z w' ⟨rfl, rfl⟩
    go_wp2_with fail
    refine (C2 _).mono ?_
    rintro z w' ⟨rfl, rfl⟩
    go_wp2_with fail
    refine (snan_any _).mono ?_
    rintro z w' ⟨rfl, rfl⟩
    go_wp2_with fail
    go_ret
    exact ⟨rfl, Below.refl _ _⟩
  · by_cases p2 : b = 3
    · subst p2
      obtain rfl : t = none := h3 (.inr rfl)
      rw [if_pos (.inr rfl)]
      simp only [Option.getD_none, Option.isSome_none] at hL
      clear h3 hl hdo M1 M2
      go_enter Tryd.func38, Tryd.ntmps38
      go_wp2_with fail
      refine (C1 _).mono ?_
      rintro z w' ⟨rfl, rfl⟩
      go_wp2_with fail
      refine (C2 _).mono ?_
      rintro z w' ⟨rfl, rfl⟩
      go_wp2_with fail
      refine (snan_any _).mono ?_
      rintro z w' ⟨rfl, rfl⟩
      go_wp2_with fail
      go_ret
      exact ⟨rfl, Below.refl _ _⟩
    · rw [if_neg (fun h => h.elim p1 p2)]
      cases t with
      | some z =>
        have S := fun w => signed_any z (n1 != n2) w (hl z rfl)
        have M1 := M1 p1
        have M2 := M2 p2
        have q1 : (a == 3) = false := by simp [p1]
        have q2 : (b == 3) = false := by simp [p2]
        clear p1 p2
        simp only [Option.getD_some, Option.isSome_some] at hL ⊢
        generalize sgnW z (n1 != n2) = R at S ⊢
        clear h3 hl hdo
        go_enter Tryd.func38, Tryd.ntmps38
        go_wp2_with fail
        refine (C1 _).mono ?_
        rintro z w' ⟨rfl, rfl⟩
        go_wp2_with fail
        refine (C2 _).mono ?_
        rintro z w' ⟨rfl, rfl⟩
        go_wp2_with fail
        refine (M1 _).mono ?_
        rintro z w' ⟨rfl, rfl⟩
        go_wp2_with fail
        refine (M2 _).mono ?_
        rintro z w' ⟨rfl, rfl⟩
        go_wp2_with fail
        refine (S _).mono ?_
        rintro z w' ⟨rfl, rfl⟩
        go_wp2_with fail
        go_ret
        exact ⟨rfl, Below.refl _ _⟩
      | none =>
        have hD := hdo rfl p1 p2
        have q1 : (a == 3) = false := by simp [p1]
        have q2 : (b == 3) = false := by simp [p2]
        clear p1 p2 hdo
        simp only [Option.getD_none, Option.isSome_none] at hL ⊢
        clear h3 hl M1 M2
        go_enter Tryd.func38, Tryd.ntmps38
        go_wp2_with fail
        refine (C1 _).mono ?_
        rintro z w' ⟨rfl, rfl⟩
        go_wp2_with fail
        refine (C2 _).mono ?_
        rintro z w' ⟨rfl, rfl⟩
        go_wp2_with fail
        refine hD.mono ?_
        rintro z w' ⟨rfl, hb⟩
        go_wp2_with fail
        go_ret
        exact ⟨rfl, hb⟩
set_option maxHeartbeats 1000000 in
set_option maxRecDepth 20000 in
theorem told_nan {ins : List (Nat × Int × Int × Nat)} {es : Array MapEntry} {c g : Nat} {T : Int → Int → Option Nat} (hb : w.heap[g]? = some (.map es c)) (hE : TabE ins es) (ho : onceB ins = true) (hne : ins ≠ []) (hTab : ∀ a b, smallK a → smallK b → tabB ins a b = T a b) (hT3 : ∀ a b, a = 3 ∨ b = 3 → T a b = none) (hTl : ∀ a b z, T a b = some z → z < 18446744073709551616)
    (x y d : Nat) (hx : x < 18446744073709551616) (hy : y < 18446744073709551616) (hdo : T (clsI x) (clsI y) = none → clsI x ≠ 3 → clsI y ≠ 3 → Calls Tryd.prog 31 #[] w fun z w' => z = .returned (.float .f64 d) ∧ Below w.heap.size w w') :
    Calls Tryd.prog 38 #[.map (some g), .float .f64 x, .float .f64 y, .func (.func 31) #[] #[]] w fun z w' => z = .returned (.float .f64 (toldW T x y d)) ∧ Below w.heap.size w w' := by
  have hL := look_any hb hE ho hne (clsI x) (clsI y) (cls_small x) (cls_small y)
  rw [hTab _ _ (cls_small x) (cls_small y)] at hL
  have e0 : ∀ a b, keyV a b = .agg #[.int .i64 a, .int .i64 b] := fun _ _ => rfl
  rw [e0] at hL
  have h3 := hT3 (clsI x) (clsI y)
  have hl := hTl (clsI x) (clsI y)
  unfold toldW
  obtain ⟨a, ha⟩ : ∃ a, clsI x = a := ⟨_, rfl⟩
  obtain ⟨b, hb2⟩ : ∃ b, clsI y = b := ⟨_, rfl⟩
  have C1 := fun w => cls_v x a ha w hx
  have C2 := fun w => cls_v y b hb2 w hy
  obtain ⟨n1, hn1⟩ : ∃ b, negW x = b := ⟨_, rfl⟩
  obtain ⟨n2, hn2⟩ : ∃ b, negW y = b := ⟨_, rfl⟩
  have M1 := fun (h3 : a ≠ 3) w => minus_v x n1 (by rw [ha]; exact h3) hn1 w hx
  have M2 := fun (h3 : b ≠ 3) w => minus_v y n2 (by rw [hb2]; exact h3) hn2 w hy
  rw [hn1, hn2]
  simp only [ha, hb2] at hL h3 hl hdo ⊢
  clear ha hb2 hn1 hn2 hb hE ho hne hTab hT3 hTl e0
  obtain ⟨t, ht⟩ : ∃ t, T a b = t := ⟨_, rfl⟩
  rw [ht] at hL h3 hl hdo ⊢
  clear ht
  by_cases p1 : a = 3
  · subst p1
    obtain rfl : t = none := h3 (.inl rfl)
    rw [if_pos (.inl rfl)]
    simp only [Option.getD_none, Option.isSome_none] at hL
    clear h3 hl hdo M1 M2
    go_enter Tryd.func38, Tryd.ntmps38
    go_wp2_with fail
    refine (C1 _).mono ?_
    rintro z w' ⟨rfl, rfl⟩
    go_wp2_with fail
    refine (C2 _).mono ?_
    rintro z w' ⟨rfl, rfl⟩
    go_wp2_with fail
    refine (snan_any _).mono ?_
    rintro z w' ⟨rfl, rfl⟩
    go_wp2_with fail
    go_ret
    exact ⟨rfl, Below.refl _ _⟩
  · by_cases p2 : b = 3
    · subst p2
      obtain rfl : t = none := h3 (.inr rfl)
      rw [if_pos (.inr rfl)]
      simp only [Option.getD_none, Option.isSome_none] at hL
      clear h3 hl hdo M1 M2
      go_enter Tryd.func38, Tryd.ntmps38
      go_wp2_with fail
      refine (C1 _).mono ?_
      rintro z w' ⟨rfl, rfl⟩
      go_wp2_with fail
      refine (C2 _).mono ?_
      rintro z w' ⟨rfl, rfl⟩
      go_wp2_with fail
      refine (snan_any _).mono ?_
      rintro z w' ⟨rfl, rfl⟩
      go_wp2_with fail
      go_ret
      exact ⟨rfl, Below.refl _ _⟩
    · rw [if_neg (fun h => h.elim p1 p2)]
      cases t with
      | some z =>
        have S := fun w => signed_any z (n1 != n2) w (hl z rfl)
        have M1 := M1 p1
        have M2 := M2 p2
        have q1 : (a == 3) = false := by simp [p1]
        have q2 : (b == 3) = false := by simp [p2]
        clear p1 p2
        simp only [Option.getD_some, Option.isSome_some] at hL ⊢
        generalize sgnW z (n1 != n2) = R at S ⊢
        clear h3 hl hdo
        go_enter Tryd.func38, Tryd.ntmps38
        go_wp2_with fail
        refine (C1 _).mono ?_
        rintro z w' ⟨rfl, rfl⟩
        go_wp2_with fail
        refine (C2 _).mono ?_
        rintro z w' ⟨rfl, rfl⟩
        go_wp2_with fail
        refine (M1 _).mono ?_
        rintro z w' ⟨rfl, rfl⟩
        go_wp2_with fail
        refine (M2 _).mono ?_
        rintro z w' ⟨rfl, rfl⟩
        go_wp2_with fail
        refine (S _).mono ?_
        rintro z w' ⟨rfl, rfl⟩
        go_wp2_with fail
        go_ret
        exact ⟨rfl, Below.refl _ _⟩
      | none =>
        have hD := hdo rfl p1 p2
        have q1 : (a == 3) = false := by simp [p1]
        have q2 : (b == 3) = false := by simp [p2]
        clear p1 p2 hdo
        simp only [Option.getD_none, Option.isSome_none] at hL ⊢
        clear h3 hl M1 M2
        go_enter Tryd.func38, Tryd.ntmps38
        go_wp2_with fail
        refine (C1 _).mono ?_
        rintro z w' ⟨rfl, rfl⟩
        go_wp2_with fail
        refine (C2 _).mono ?_
        rintro z w' ⟨rfl, rfl⟩
        go_wp2_with fail
        refine hD.mono ?_
        rintro z w' ⟨rfl, hb⟩
        go_wp2_with fail
        go_ret
        exact ⟨rfl, hb⟩
end
end Go.Proofs.YtjlaadadbpffdaaDoor

namespace Go.Proofs.YtjlaadadbpffdaaDoor
open Go.RowKit Go.Plumb
section
variable {w : World} {a b : Option Addr} {n c m d : Nat} {l k : List Nat}
theorem drewB {w0 w : World} (h : Below w0.heap.size w0 w) : Below w0.heap.size w0 w.drew := Below.drew h
set_option maxHeartbeats 4000000 in
set_option maxRecDepth 20000 in
theorem smul1_any (g1 g2 x y : Nat) (hT : Tab w) (h1 : w.cell? ⟨g1, 0, none⟩ = some (.float .f64 x)) (h2 : w.cell? ⟨g2, 0, none⟩ = some (.float .f64 y)) (cx : clsI x = 1) (cy : clsI y = 1) (hx : x < 18446744073709551616) (hy : y < 18446744073709551616) :
    Calls Tryd.prog 40 #[.pointer (some ⟨g1, 0, none⟩), .pointer (some ⟨g2, 0, none⟩)] w fun z w' => z = .returned (.float .f64 (rndD (nrm (mulD (nrm (dyW x)) (nrm (dyW y)))))) ∧ Below w.heap.size w w' := by
  obtain ⟨W, hW⟩ : ∃ W, rndD (nrm (mulD (nrm (dyW x)) (nrm (dyW y)))) = W := ⟨_, rfl⟩
  rw [hW]
  obtain ⟨R, q1, q3, q4, q5⟩ := mul_words x y W hW
  obtain ⟨X, hX⟩ : ∃ X, nrm (dyW x) = X := ⟨_, rfl⟩
  obtain ⟨Y, hY⟩ : ∃ Y, nrm (dyW y) = Y := ⟨_, rfl⟩
  have l1 := (word_nrm x _ rfl).2.2
  have l2 := (word_nrm y _ rfl).2.2
  rw [hX] at q1 l1
  rw [hY] at q1 l2
  have O1 := fun wx (hb : Below w.heap.size w wx) => sof_v x X hX hx (cls1 cx).1 (hT.below hb)
  have O2 := fun wx (hb : Below w.heap.size w wx) => sof_v y Y hY hy (cls1 cy).1 (hT.below hb)
  have hMu := fun wx p1 p2 p3 p4 p5 p6 (hb : Below w.heap.size w wx) (n1 : Num wx p1 p2 p3 (limbs X.m)) (n2 : Num wx p4 p5 p6 (limbs Y.m)) => dMul_v X.s Y.s X.e Y.e R 0 (hT.below hb) n1 n2 (valL_limbs _) (valL_limbs _) (by omega) q1
  have hRo := fun wx p1 p2 p3 (hb : Below w.heap.size w wx) (n1 : Num wx p1 p2 p3 (limbs R.m)) => rounded_any R.s R.e 0 W (hT.below hb) n1 (Nat.le_trans q5 (by decide)) q3 (by rw [valL_limbs]; exact q4)
  have c1 := cell_lt h1
  have c2 := cell_lt h2
  have HSS : Hid (∀ wx, Below w.heap.size w wx → Below w.heap.size w wx ∧ wx.cell? ⟨g1, 0, none⟩ = some (.float .f64 x) ∧ wx.cell? ⟨g2, 0, none⟩ = some (.float .f64 y)) := Lib.hid (fun wx h => ⟨h, ((bcell h).1 _ _ c1).trans h1, ((bcell h).1 _ _ c2).trans h2⟩)
  have HB0 := Below.refl w.heap.size w
  clear hW q1 q3 q4 q5 hX hY l1 l2 hx hy cx cy c1 c2 hT
  go_enter Tryd.func40, Tryd.ntmps40
  go_wp2_with fail
  go_region_held3 (fun wx => Below w.heap.size w wx ∧ wx.cell? ⟨g1, 0, none⟩ = some (.float .f64 x) ∧ wx.cell? ⟨g2, 0, none⟩ = some (.float .f64 y)) (first | exact HSS.out _ (by assumption) | exact HSS.out _ (drewB (by assumption))) ((first | (go_at_call 35; (with_reducible refine (O1 _ (by first | assumption | exact drewB (by assumption))).mono ?_); rintro e v1 ⟨a1, n1, c1, rfl, N1, hb⟩; have HB0 := below_step (w0 := w) (by first | assumption | exact drewB (by assumption)) hb; clear hb) | (go_at_call 35; (with_reducible refine (O2 _ (by first | assumption | exact drewB (by assumption))).mono ?_); rintro e v2 ⟨a2, n2, c2, rfl, N2, hb⟩; have M1 := Num.below (by first | exact N1 | exact Num.drew N1) hb; have HB0 := below_step (w0 := w) (by first | assumption | exact drewB (by assumption)) hb; clear hb) | (go_at_call 41; (with_reducible refine (hMu _ _ _ _ _ _ _ (by first | assumption | exact drewB (by assumption)) (by first | exact M1 | exact Num.drew M1) (by first | exact N2 | exact Num.drew N2)).mono ?_); rintro e v3 ⟨a3, n3, c3, rfl, N3, hb⟩; have HB0 := below_step (w0 := w) (by first | assumption | exact drewB (by assumption)) hb; clear hb) | (go_at_call 33; (with_reducible refine (hRo _ _ _ _ (by first | assumption | exact drewB (by assumption)) (by first | exact N3 | exact Num.drew N3)).mono ?_); rintro e v4 ⟨rfl, hb⟩; have HB0 := below_step (w0 := w) (by first | assumption | exact drewB (by assumption)) hb; clear hb)))
  all_goals go_wp2_with fail
  all_goals go_ret
  all_goals exact ⟨rfl, by first | assumption | exact drewB (by assumption)⟩
set_option maxHeartbeats 4000000 in
set_option maxRecDepth 20000 in
theorem sdiv1_any (g1 g2 x y : Nat) (hT : Tab w) (h1 : w.cell? ⟨g1, 0, none⟩ = some (.float .f64 x)) (h2 : w.cell? ⟨g2, 0, none⟩ = some (.float .f64 y)) (cx : clsI x = 1) (cy : clsI y = 1) (hx : x < 18446744073709551616) (hy : y < 18446744073709551616) :
    Calls Tryd.prog 43 #[.pointer (some ⟨g1, 0, none⟩), .pointer (some ⟨g2, 0, none⟩)] w fun z w' => z = .returned (.float .f64 (quoD (nrm (dyW x)) (nrm (dyW y)))) ∧ Below w.heap.size w w' := by
  have q1 := quo_words x y cx cy
  obtain ⟨W, hW⟩ : ∃ W, quoD (nrm (dyW x)) (nrm (dyW y)) = W := ⟨_, rfl⟩
  rw [hW] at q1 ⊢
  obtain ⟨X, hX⟩ : ∃ X, nrm (dyW x) = X := ⟨_, rfl⟩
  obtain ⟨Y, hY⟩ : ∃ Y, nrm (dyW y) = Y := ⟨_, rfl⟩
  have l1 := (word_nrm x _ rfl).2.2
  have l2 := (word_nrm y _ rfl).2.2
  rw [hX] at q1 l1
  rw [hY] at q1 l2
  have O1 := fun wx (hb : Below w.heap.size w wx) => sof_v x X hX hx (cls1 cx).1 (hT.below hb)
  have O2 := fun wx (hb : Below w.heap.size w wx) => sof_v y Y hY hy (cls1 cy).1 (hT.below hb)
  have hMu := fun wx p1 p2 p3 p4 p5 p6 (hb : Below w.heap.size w wx) (n1 : Num wx p1 p2 p3 (limbs X.m)) (n2 : Num wx p4 p5 p6 (limbs Y.m)) => sQuot_any X.s Y.s X.e Y.e (hT.below hb) n1 n2 (by omega) (by omega) W 0 (by rw [valL_limbs, valL_limbs]; exact q1)
  have c1 := cell_lt h1
  have c2 := cell_lt h2
  have HSS : Hid (∀ wx, Below w.heap.size w wx → Below w.heap.size w wx ∧ wx.cell? ⟨g1, 0, none⟩ = some (.float .f64 x) ∧ wx.cell? ⟨g2, 0, none⟩ = some (.float .f64 y)) := Lib.hid (fun wx h => ⟨h, ((bcell h).1 _ _ c1).trans h1, ((bcell h).1 _ _ c2).trans h2⟩)
  have HB0 := Below.refl w.heap.size w
  clear hW q1 hX hY l1 l2 hx hy cx cy c1 c2 hT
  go_enter Tryd.func43, Tryd.ntmps43
  go_wp2_with fail
  go_region_held3 (fun wx => Below w.heap.size w wx ∧ wx.cell? ⟨g1, 0, none⟩ = some (.float .f64 x) ∧ wx.cell? ⟨g2, 0, none⟩ = some (.float .f64 y)) (first | exact HSS.out _ (by assumption) | exact HSS.out _ (drewB (by assumption))) ((first | (go_at_call 35; (with_reducible refine (O1 _ (by first | assumption | exact drewB (by assumption))).mono ?_); rintro e v1 ⟨a1, n1, c1, rfl, N1, hb⟩; have HB0 := below_step (w0 := w) (by first | assumption | exact drewB (by assumption)) hb; clear hb) | (go_at_call 35; (with_reducible refine (O2 _ (by first | assumption | exact drewB (by assumption))).mono ?_); rintro e v2 ⟨a2, n2, c2, rfl, N2, hb⟩; have M1 := Num.below (by first | exact N1 | exact Num.drew N1) hb; have HB0 := below_step (w0 := w) (by first | assumption | exact drewB (by assumption)) hb; clear hb) | (go_at_call 20; (with_reducible refine (hMu _ _ _ _ _ _ _ (by first | assumption | exact drewB (by assumption)) (by first | exact M1 | exact Num.drew M1) (by first | exact N2 | exact Num.drew N2)).mono ?_); rintro e v3 ⟨rfl, hb⟩; have HB0 := below_step (w0 := w) (by first | assumption | exact drewB (by assumption)) hb; clear hb)))
  all_goals go_wp2_with fail
  all_goals go_ret
  all_goals exact ⟨rfl, by first | assumption | exact drewB (by assumption)⟩
end
end Go.Proofs.YtjlaadadbpffdaaDoor

namespace Go.Plumb
theorem prodT3 (a b : Int) (h : a = 3 ∨ b = 3) : prodT a b = none := by
  unfold prodT
  rcases h with rfl | rfl <;> simp
theorem quoT3 (a b : Int) (h : a = 3 ∨ b = 3) : quoT a b = none := by
  unfold quoT
  rcases h with rfl | rfl <;> simp
theorem prodT_num (x y : Nat) (h : prodT (clsI x) (clsI y) = none) (hx : clsI x ≠ 3) (hy : clsI y ≠ 3) : clsI x = 1 ∧ clsI y = 1 := by
  rcases cls_cases x with k | k | k | k <;> rcases cls_cases y with j | j | j | j <;> first | exact absurd k hx | exact absurd j hy | exact ⟨k, j⟩ | (rw [k, j] at h; exact absurd h (by decide))
theorem quoT_num (x y : Nat) (h : quoT (clsI x) (clsI y) = none) (hx : clsI x ≠ 3) (hy : clsI y ≠ 3) : clsI x = 1 ∧ clsI y = 1 := by
  rcases cls_cases x with k | k | k | k <;> rcases cls_cases y with j | j | j | j <;> first | exact absurd k hx | exact absurd j hy | exact ⟨k, j⟩ | (rw [k, j] at h; exact absurd h (by decide))
end Go.Plumb
namespace Go.Proofs.YtjlaadadbpffdaaDoor
open Go.RowKit Go.Plumb
theorem prod_tab (a b : Int) (ha : smallK a) (hb : smallK b) : tabB prodIns a b = prodT a b := by
  rcases ha with rfl | rfl | rfl | rfl <;> rcases hb with rfl | rfl | rfl | rfl <;> decide
theorem quo_tab (a b : Int) (ha : smallK a) (hb : smallK b) : tabB quoIns a b = quoT a b := by
  rcases ha with rfl | rfl | rfl | rfl <;> rcases hb with rfl | rfl | rfl | rfl <;> decide
section
variable {w : World} {a b : Option Addr} {n c m d : Nat} {l k : List Nat}
theorem map_drew {w : World} {g : Nat} {o : Obj} (h : w.heap[g]? = some o) : w.drew.heap[g]? = some o := h
theorem map_size {w W : World} {o : Obj} (h : w.heap[W.drew.heap.size]? = some o) : w.heap[W.heap.size]? = some o := h
theorem cell_f (w : World) (x : Nat) (t : TypeId) : (w.alloc (.cells #[.float .f64 x] t)).cell? ⟨w.heap.size, 0, none⟩ = some (.float .f64 x) := World.cell?_alloc_at (hn := rfl) ..
set_option maxHeartbeats 4000000 in
set_option maxRecDepth 20000 in
theorem sMul_any (x y : Nat) (hT : Tab w) (hx : x < 18446744073709551616) (hy : y < 18446744073709551616) :
    Calls Tryd.prog 14 #[.float .f64 x, .float .f64 y] w fun z w' => z = .returned (.float .f64 (mulW x y)) ∧ Below w.heap.size w w' := by
  unfold mulW
  obtain ⟨W0, hW0⟩ : ∃ W0, (w.alloc (.cells #[.float .f64 x] 24)).alloc (.cells #[.float .f64 y] 24) = W0 := ⟨_, rfl⟩
  have c1 : W0.cell? ⟨w.heap.size, 0, none⟩ = some (.float .f64 x) := by rw [← hW0]; exact cell_old _ (cell_f w x _)
  have c2 : W0.cell? ⟨w.heap.size + 1, 0, none⟩ = some (.float .f64 y) := by rw [← hW0]; simp
  have hB0 : Below w.heap.size w W0 := by rw [← hW0]; (repeat' (first | exact Below.refl _ _ | assumption | (refine below_alloc ?_ _) | (refine Below.setCell ?_ ?_ _) | (refine Below.drew ?_) | (refine below_drewN ?_ _))) <;> (first | (simp; done) | (simp; omega) | omega)
  have hT0 := hT.below hB0
  have k1 := cell_lt c1
  have k2 := cell_lt c2
  have hTo := fun wx es c g (hb : Below W0.heap.size W0 wx) (hm : wx.heap[g]? = some (Obj.map es c)) (hE : TabE prodIns es) => told_mul (d := rndD (nrm (mulD (nrm (dyW x)) (nrm (dyW y))))) hm hE (by decide) (by decide) prod_tab prodT3 (fun a b z h => prodT_lt h) w.heap.size (w.heap.size + 1) x y hx hy (fun h1 h2 h3 => smul1_any _ _ x y (hT0.below hb) (((bcell hb).1 _ _ k1).trans c1) (((bcell hb).1 _ _ k2).trans c2) (prodT_num x y h1 h2 h3).1 (prodT_num x y h1 h2 h3).2 hx hy)
  obtain ⟨R, hR⟩ : ∃ R, toldW prodT x y (rndD (nrm (mulD (nrm (dyW x)) (nrm (dyW y))))) = R := ⟨_, rfl⟩
  rw [hR] at hTo ⊢
  have HSS : Hid (∀ wx, Below W0.heap.size W0 wx → Below W0.heap.size W0 wx ∧ wx.cell? ⟨w.heap.size, 0, none⟩ = some (.float .f64 x) ∧ wx.cell? ⟨w.heap.size + 1, 0, none⟩ = some (.float .f64 y)) := Lib.hid (fun wx h => ⟨h, ((bcell h).1 _ _ k1).trans c1, ((bcell h).1 _ _ k2).trans c2⟩)
  have HB0 := Below.refl W0.heap.size W0
  have HW := Lib.hid hW0
  clear hW0 hR hx hy k1 k2 hT hT0
  go_enter Tryd.func14, Tryd.ntmps14
  go_wp2_with fail
  rw [HW.out]
  go_region_held3 (fun wx => Below W0.heap.size W0 wx ∧ wx.cell? ⟨w.heap.size, 0, none⟩ = some (.float .f64 x) ∧ wx.cell? ⟨w.heap.size + 1, 0, none⟩ = some (.float .f64 y)) (first | exact HSS.out _ (by assumption) | exact HSS.out _ (drewB (by assumption))) ((first | (go_at_call 39; (with_reducible refine (prod_any _).mono ?_); rintro e v1 ⟨es, c, rfl, hb, hm1, hE1⟩; have HB0 := below_step (w0 := W0) (by first | assumption | exact drewB (by assumption)) hb; clear hb) | (go_at_call 38; (with_reducible refine (hTo _ _ _ _ (by first | assumption | exact drewB (by assumption)) (by first | exact hm1 | exact map_size hm1 | exact map_drew hm1 | exact map_size (map_drew hm1)) hE1).mono ?_); rintro e v2 ⟨rfl, hb⟩; have HB0 := below_step (w0 := W0) (by first | assumption | exact drewB (by assumption)) hb; clear hb)))
  all_goals go_wp2_with fail
  all_goals go_ret
  all_goals exact ⟨rfl, below_step hB0 (by first | assumption | exact drewB (by assumption))⟩
set_option maxHeartbeats 4000000 in
set_option maxRecDepth 20000 in
theorem sDiv_any (x y : Nat) (hT : Tab w) (hx : x < 18446744073709551616) (hy : y < 18446744073709551616) :
    Calls Tryd.prog 15 #[.float .f64 x, .float .f64 y] w fun z w' => z = .returned (.float .f64 (divW x y)) ∧ Below w.heap.size w w' := by
  unfold divW
  obtain ⟨W0, hW0⟩ : ∃ W0, (w.alloc (.cells #[.float .f64 x] 24)).alloc (.cells #[.float .f64 y] 24) = W0 := ⟨_, rfl⟩
  have c1 : W0.cell? ⟨w.heap.size, 0, none⟩ = some (.float .f64 x) := by rw [← hW0]; exact cell_old _ (cell_f w x _)
  have c2 : W0.cell? ⟨w.heap.size + 1, 0, none⟩ = some (.float .f64 y) := by rw [← hW0]; simp
  have hB0 : Below w.heap.size w W0 := by rw [← hW0]; (repeat' (first | exact Below.refl _ _ | assumption | (refine below_alloc ?_ _) | (refine Below.setCell ?_ ?_ _) | (refine Below.drew ?_) | (refine below_drewN ?_ _))) <;> (first | (simp; done) | (simp; omega) | omega)
  have hT0 := hT.below hB0
  have k1 := cell_lt c1
  have k2 := cell_lt c2
  have hTo := fun wx es c g (hb : Below W0.heap.size W0 wx) (hm : wx.heap[g]? = some (Obj.map es c)) (hE : TabE quoIns es) => told_div (d := quoD (nrm (dyW x)) (nrm (dyW y))) hm hE (by decide) (by decide) quo_tab quoT3 (fun a b z h => quoT_lt h) w.heap.size (w.heap.size + 1) x y hx hy (fun h1 h2 h3 => sdiv1_any _ _ x y (hT0.below hb) (((bcell hb).1 _ _ k1).trans c1) (((bcell hb).1 _ _ k2).trans c2) (quoT_num x y h1 h2 h3).1 (quoT_num x y h1 h2 h3).2 hx hy)
  obtain ⟨R, hR⟩ : ∃ R, toldW quoT x y (quoD (nrm (dyW x)) (nrm (dyW y))) = R := ⟨_, rfl⟩
  rw [hR] at hTo ⊢
  have HSS : Hid (∀ wx, Below W0.heap.size W0 wx → Below W0.heap.size W0 wx ∧ wx.cell? ⟨w.heap.size, 0, none⟩ = some (.float .f64 x) ∧ wx.cell? ⟨w.heap.size + 1, 0, none⟩ = some (.float .f64 y)) := Lib.hid (fun wx h => ⟨h, ((bcell h).1 _ _ k1).trans c1, ((bcell h).1 _ _ k2).trans c2⟩)
  have HB0 := Below.refl W0.heap.size W0
  have HW := Lib.hid hW0
  clear hW0 hR hx hy k1 k2 hT hT0
  go_enter Tryd.func15, Tryd.ntmps15
  go_wp2_with fail
  rw [HW.out]
  go_region_held3 (fun wx => Below W0.heap.size W0 wx ∧ wx.cell? ⟨w.heap.size, 0, none⟩ = some (.float .f64 x) ∧ wx.cell? ⟨w.heap.size + 1, 0, none⟩ = some (.float .f64 y)) (first | exact HSS.out _ (by assumption) | exact HSS.out _ (drewB (by assumption))) ((first | (go_at_call 42; (with_reducible refine (quo_any _).mono ?_); rintro e v1 ⟨es, c, rfl, hb, hm1, hE1⟩; have HB0 := below_step (w0 := W0) (by first | assumption | exact drewB (by assumption)) hb; clear hb) | (go_at_call 38; (with_reducible refine (hTo _ _ _ _ (by first | assumption | exact drewB (by assumption)) (by first | exact hm1 | exact map_size hm1 | exact map_drew hm1 | exact map_size (map_drew hm1)) hE1).mono ?_); rintro e v2 ⟨rfl, hb⟩; have HB0 := below_step (w0 := W0) (by first | assumption | exact drewB (by assumption)) hb; clear hb)))
  all_goals go_wp2_with fail
  all_goals go_ret
  all_goals exact ⟨rfl, below_step hB0 (by first | assumption | exact drewB (by assumption))⟩
end
end Go.Proofs.YtjlaadadbpffdaaDoor

namespace Go.Proofs.YtjlaadadbpffdaaDoor
open Go.RowKit Go.Plumb
section
variable {w : World} {a b : Option Addr} {n c m d : Nat} {l k : List Nat}
set_option maxHeartbeats 2000000 in
set_option maxRecDepth 20000 in
theorem sFma_z (x y z : Nat) (cz : Int) (hcx : clsI x = 1) (hcy : clsI y = 1) (hcz : clsI z = cz) (h : cz = 2 ∨ cz = 3) (hx : x < 18446744073709551616) (hy : y < 18446744073709551616) (hz : z < 18446744073709551616) (w : World) :
    Calls Tryd.prog 25 #[.float .f64 x, .float .f64 y, .float .f64 z] w fun r w' => r = .returned (.float .f64 z) ∧ Below w.heap.size w w' := by
  have C1 := fun w => cls_v x 1 hcx w hx
  have C2 := fun w => cls_v y 1 hcy w hy
  have C3 := fun w => cls_v z cz hcz w hz
  clear hcx hcy hcz hx hy hz
  rcases h with rfl | rfl
  all_goals go_enter Tryd.func25, Tryd.ntmps25
  all_goals go_wp2_with fail
  all_goals refine (C1 _).mono ?_
  all_goals rintro r w' ⟨rfl, rfl⟩
  all_goals go_wp2_with fail
  all_goals refine (C2 _).mono ?_
  all_goals rintro r w' ⟨rfl, rfl⟩
  all_goals go_wp2_with fail
  all_goals refine (C3 _).mono ?_
  all_goals rintro r w' ⟨rfl, rfl⟩
  all_goals go_wp2_with fail
  all_goals go_ret
  all_goals exact ⟨rfl, Below.refl _ _⟩
set_option maxHeartbeats 4000000 in
set_option maxRecDepth 20000 in
theorem sFma_x (x y z : Nat) (cx : Int) (hcx : clsI x = cx) (h : cx = 0 ∨ cx = 2 ∨ cx = 3) (hT : Tab w) (hx : x < 18446744073709551616) (hy : y < 18446744073709551616) (hz : z < 18446744073709551616) :
    Calls Tryd.prog 25 #[.float .f64 x, .float .f64 y, .float .f64 z] w fun r w' => r = .returned (.float .f64 (addW (toldW prodT x y nanN) z)) ∧ Below w.heap.size w w' := by
  have C1 := fun w => cls_v x cx hcx w hx
  have hTo := fun wx es c g (hm : wx.heap[g]? = some (Obj.map es c)) (hE : TabE prodIns es) => told_nan (w := wx) hm hE (by decide) (by decide) prod_tab prodT3 (fun a b z h => prodT_lt h) x y nanN hx hy (fun _ _ _ => (snan_any wx).mono fun z w' ⟨p, q⟩ => ⟨p, q ▸ Below.refl _ _⟩)
  have hlt : toldW prodT x y nanN < 18446744073709551616 := toldP_lt (by decide)
  generalize toldW prodT x y nanN = t at hTo hlt ⊢
  have hA := fun wx (hb : Below w.heap.size w wx) => sAdd_any t z (hT.below hb) hlt hz
  clear hcx hx hy hz hlt hT
  rcases h with rfl | rfl | rfl
  all_goals go_enter Tryd.func25, Tryd.ntmps25
  all_goals go_wp2_with fail
  all_goals refine (C1 _).mono ?_
  all_goals rintro r w' ⟨rfl, rfl⟩
  all_goals go_wp2_with fail
  all_goals refine (C1 _).mono ?_
  all_goals rintro r w' ⟨rfl, rfl⟩
  all_goals go_wp2_with fail
  all_goals refine (prod_any _).mono ?_
  all_goals rintro r w1 ⟨es, c, rfl, hb, hm1, hE1⟩
  all_goals have hTo1 := hTo _ _ _ _ hm1 hE1
  all_goals clear hTo
  all_goals go_wp2_with fail
  all_goals refine hTo1.mono ?_
  all_goals rintro r w2 ⟨rfl, hb2⟩
  all_goals have hB2 := below_step hb hb2
  all_goals have hA2 := hA _ hB2
  all_goals clear hTo1 hA hm1 hb hb2
  all_goals go_wp2_with fail
  all_goals refine hA2.mono ?_
  all_goals rintro r w3 ⟨rfl, hb3⟩
  all_goals go_wp2_with fail
  all_goals go_ret
  all_goals exact ⟨rfl, below_step hB2 hb3⟩
set_option maxHeartbeats 4000000 in
set_option maxRecDepth 20000 in
theorem sFma_y (x y z : Nat) (cy : Int) (hcx : clsI x = 1) (hcy : clsI y = cy) (h : cy = 0 ∨ cy = 2 ∨ cy = 3) (hT : Tab w) (hx : x < 18446744073709551616) (hy : y < 18446744073709551616) (hz : z < 18446744073709551616) :
    Calls Tryd.prog 25 #[.float .f64 x, .float .f64 y, .float .f64 z] w fun r w' => r = .returned (.float .f64 (addW (toldW prodT x y nanN) z)) ∧ Below w.heap.size w w' := by
  have C1 := fun w => cls_v x 1 hcx w hx
  have C2 := fun w => cls_v y cy hcy w hy
  have hTo := fun wx es c g (hm : wx.heap[g]? = some (Obj.map es c)) (hE : TabE prodIns es) => told_nan (w := wx) hm hE (by decide) (by decide) prod_tab prodT3 (fun a b z h => prodT_lt h) x y nanN hx hy (fun _ _ _ => (snan_any wx).mono fun z w' ⟨p, q⟩ => ⟨p, q ▸ Below.refl _ _⟩)
  have hlt : toldW prodT x y nanN < 18446744073709551616 := toldP_lt (by decide)
  generalize toldW prodT x y nanN = t at hTo hlt ⊢
  have hA := fun wx (hb : Below w.heap.size w wx) => sAdd_any t z (hT.below hb) hlt hz
  clear hcx hcy hx hy hz hlt hT
  rcases h with rfl | rfl | rfl
  all_goals go_enter Tryd.func25, Tryd.ntmps25
  all_goals go_wp2_with fail
  all_goals refine (C1 _).mono ?_
  all_goals rintro r w' ⟨rfl, rfl⟩
  all_goals go_wp2_with fail
  all_goals refine (C2 _).mono ?_
  all_goals rintro r w' ⟨rfl, rfl⟩
  all_goals go_wp2_with fail
  all_goals refine (C1 _).mono ?_
  all_goals rintro r w' ⟨rfl, rfl⟩
  all_goals go_wp2_with fail
  all_goals refine (C2 _).mono ?_
  all_goals rintro r w' ⟨rfl, rfl⟩
  all_goals go_wp2_with fail
  all_goals refine (prod_any _).mono ?_
  all_goals rintro r w1 ⟨es, c, rfl, hb, hm1, hE1⟩
  all_goals have hTo1 := hTo _ _ _ _ hm1 hE1
  all_goals clear hTo
  all_goals go_wp2_with fail
  all_goals refine hTo1.mono ?_
  all_goals rintro r w2 ⟨rfl, hb2⟩
  all_goals have hB2 := below_step hb hb2
  all_goals have hA2 := hA _ hB2
  all_goals clear hTo1 hA hm1 hb hb2
  all_goals go_wp2_with fail
  all_goals refine hA2.mono ?_
  all_goals rintro r w3 ⟨rfl, hb3⟩
  all_goals go_wp2_with fail
  all_goals go_ret
  all_goals exact ⟨rfl, below_step hB2 hb3⟩
set_option maxHeartbeats 4000000 in
set_option maxRecDepth 20000 in
theorem sFma_num (x y z : Nat) (cz : Int) (hcx : clsI x = 1) (hcy : clsI y = 1) (hcz : clsI z = cz) (h : cz = 0 ∨ cz = 1) (hT : Tab w) (hx : x < 18446744073709551616) (hy : y < 18446744073709551616) (hz : z < 18446744073709551616) :
    Calls Tryd.prog 25 #[.float .f64 x, .float .f64 y, .float .f64 z] w fun r w' => r = .returned (.float .f64 (rndD (nrm (addD (nrm (mulD (nrm (dyW x)) (nrm (dyW y)))) (nrm (dyW z)))))) ∧ Below w.heap.size w w' := by
  obtain ⟨W, hW⟩ : ∃ W, rndD (nrm (addD (nrm (mulD (nrm (dyW x)) (nrm (dyW y)))) (nrm (dyW z)))) = W := ⟨_, rfl⟩
  rw [hW]
  obtain ⟨Q, R, q1, q2, q3, q4, q5, q6, q7⟩ := fma_words x y z W hW
  obtain ⟨X, hX⟩ : ∃ X, nrm (dyW x) = X := ⟨_, rfl⟩
  obtain ⟨Y, hY⟩ : ∃ Y, nrm (dyW y) = Y := ⟨_, rfl⟩
  obtain ⟨Z, hZ⟩ : ∃ Z, nrm (dyW z) = Z := ⟨_, rfl⟩
  have l1 := (word_nrm x _ rfl).2.2
  have l2 := (word_nrm y _ rfl).2.2
  have l3 := (word_nrm z _ rfl).2.2
  have k3 : classI (z : Int) ≤ 3 := by
    rcases h with h | h
    · exact (cls0 (hcz.trans h)).1
    · exact (cls1 (hcz.trans h)).1
  rw [hX] at q1 l1
  rw [hY] at q1 l2
  rw [hZ] at q3 q4 l3
  have C1 := fun w => cls_v x 1 hcx w hx
  have C2 := fun w => cls_v y 1 hcy w hy
  have C3 := fun w => cls_v z cz hcz w hz
  have O1 := fun wx (hb : Below w.heap.size w wx) => sof_v x X hX hx (cls1 hcx).1 (hT.below hb)
  have O2 := fun wx (hb : Below w.heap.size w wx) => sof_v y Y hY hy (cls1 hcy).1 (hT.below hb)
  have O3 := fun wx (hb : Below w.heap.size w wx) => sof_v z Z hZ hz k3 (hT.below hb)
  have hMu := fun wx p1 p2 p3 p4 p5 p6 (hb : Below w.heap.size w wx) (n1 : Num wx p1 p2 p3 (limbs X.m)) (n2 : Num wx p4 p5 p6 (limbs Y.m)) => dMul_v X.s Y.s X.e Y.e Q 0 (hT.below hb) n1 n2 (valL_limbs _) (valL_limbs _) (by omega) q1
  have hAd := fun wx p1 p2 p3 p4 p5 p6 (hb : Below w.heap.size w wx) (n1 : Num wx p1 p2 p3 (limbs Q.m)) (n2 : Num wx p4 p5 p6 (limbs Z.m)) => dAdd_v Q.s Z.s Q.e Z.e R 0 (hT.below hb) n1 n2 (valL_limbs _) (valL_limbs _) (by omega) q4 q3
  have hRo := fun wx p1 p2 p3 (hb : Below w.heap.size w wx) (n1 : Num wx p1 p2 p3 (limbs R.m)) => rounded_any R.s R.e 0 W (hT.below hb) n1 (Nat.le_trans q7 (by decide)) q5 (by rw [valL_limbs]; exact q6)
  clear hW q1 q2 q3 q4 q5 q6 q7 hX hY hZ l1 l2 l3 hx hy hz hcx hcy hcz k3 hT
  rcases h with rfl | rfl
  all_goals go_enter Tryd.func25, Tryd.ntmps25
  all_goals go_wp2_with fail
  all_goals refine (C1 _).mono ?_
  all_goals rintro r w' ⟨rfl, rfl⟩
  all_goals go_wp2_with fail
  all_goals refine (C2 _).mono ?_
  all_goals rintro r w' ⟨rfl, rfl⟩
  all_goals go_wp2_with fail
  all_goals refine (C3 _).mono ?_
  all_goals rintro r w' ⟨rfl, rfl⟩
  all_goals go_wp2_with fail
  all_goals refine (C1 _).mono ?_
  all_goals rintro r w' ⟨rfl, rfl⟩
  all_goals go_wp2_with fail
  all_goals refine (C2 _).mono ?_
  all_goals rintro r w' ⟨rfl, rfl⟩
  all_goals go_wp2_with fail
  all_goals refine (O1 _ (by repeat' (first | exact Below.refl _ _ | refine below_alloc ?_ _))).mono ?_
  all_goals rintro r w1 ⟨a1, n1, c1, rfl, N1, hb1⟩
  all_goals clear O1 C1 C2 C3
  all_goals go_wp2_with fail
  all_goals refine (O2 _ hb1).mono ?_
  all_goals rintro r w2 ⟨a2, n2, c2, rfl, N2, hb2⟩
  all_goals have hB2 := below_step hb1 hb2
  all_goals have hM2 := hMu _ _ _ _ _ _ _ hB2 (N1.below hb2) N2
  all_goals clear O2 hMu N1 N2 hb1 hb2
  all_goals go_wp2_with fail
  all_goals refine hM2.mono ?_
  all_goals rintro r w3 ⟨a3, n3, c3, rfl, N3, hb3⟩
  all_goals have hB3 := below_step hB2 hb3
  all_goals have P0 := Boxed3.new w3 Q.s a3 n3 c3 Q.e 37 (g := w3.heap.size) rfl
  all_goals have N4 : Num (w3.alloc (.cells #[.bool Q.s, .slice a3 n3 c3, .int .i64 Q.e] 37)) a3 n3 c3 (limbs Q.m) := N3.below (below_alloc (Below.refl _ _) _)
  all_goals have hB4 : Below w.heap.size w (w3.alloc (.cells #[.bool Q.s, .slice a3 n3 c3, .int .i64 Q.e] 37)) := below_alloc hB3 _
  all_goals clear hM2 N3 hb3 hB2
  all_goals obtain ⟨W0, hW0⟩ : ∃ W0, w3.alloc (.cells #[.bool Q.s, .slice a3 n3 c3, .int .i64 Q.e] 37) = W0 := ⟨_, rfl⟩
  all_goals rw [hW0] at P0 N4 hB4
  all_goals have HW := Lib.hid hW0
  all_goals clear hW0
  all_goals have HSS : Hid (∀ wx, Below W0.heap.size W0 wx → Below W0.heap.size W0 wx ∧ wx.cell? ⟨w3.heap.size, 0, none⟩ = some (.bool Q.s) ∧ wx.cell? ⟨w3.heap.size, 1, none⟩ = some (.slice a3 n3 c3) ∧ wx.cell? ⟨w3.heap.size, 2, none⟩ = some (.int .i64 Q.e)) := Lib.hid (fun wx h => ⟨h, (P0.below h).c0, (P0.below h).c1, (P0.below h).c2⟩)
  all_goals have HB0 := Below.refl W0.heap.size W0
  all_goals have O4 := fun wx (hb : Below W0.heap.size W0 wx) => O3 wx (below_step hB4 hb)
  all_goals have A4 := fun wx p4 p5 p6 (hb : Below W0.heap.size W0 wx) (n2 : Num wx p4 p5 p6 (limbs Z.m)) => hAd wx _ _ _ p4 p5 p6 (below_step hB4 hb) (N4.below hb) n2
  all_goals have R4 := fun wx p1 p2 p3 (hb : Below W0.heap.size W0 wx) (n1 : Num wx p1 p2 p3 (limbs R.m)) => hRo wx p1 p2 p3 (below_step hB4 hb) n1
  all_goals clear O3 hAd hRo P0 N4
  all_goals go_wp2_with fail
  all_goals rw [HW.out]
  all_goals go_region_held3 (fun wx => Below W0.heap.size W0 wx ∧ wx.cell? ⟨w3.heap.size, 0, none⟩ = some (.bool Q.s) ∧ wx.cell? ⟨w3.heap.size, 1, none⟩ = some (.slice a3 n3 c3) ∧ wx.cell? ⟨w3.heap.size, 2, none⟩ = some (.int .i64 Q.e)) (first | exact HSS.out _ (by assumption) | exact HSS.out _ (drewB (by assumption))) ((first | (go_at_call 35; (with_reducible refine (O4 _ (by first | assumption | exact drewB (by assumption))).mono ?_); rintro e v1 ⟨a5, n5, c5, rfl, N5, hb⟩; have HB0 := below_step (w0 := W0) (by first | assumption | exact drewB (by assumption)) hb; clear hb) | (go_at_call 34; (with_reducible refine (A4 _ _ _ _ (by first | assumption | exact drewB (by assumption)) (by first | exact N5 | exact Num.drew N5)).mono ?_); rintro e v2 ⟨a6, n6, c6, rfl, N6, hb⟩; have HB0 := below_step (w0 := W0) (by first | assumption | exact drewB (by assumption)) hb; clear hb) | (go_at_call 33; (with_reducible refine (R4 _ _ _ _ (by first | assumption | exact drewB (by assumption)) (by first | exact N6 | exact Num.drew N6)).mono ?_); rintro e v4 ⟨rfl, hb⟩; have HB0 := below_step (w0 := W0) (by first | assumption | exact drewB (by assumption)) hb; clear hb)))
  all_goals go_wp2_with fail
  all_goals go_ret
  all_goals exact ⟨rfl, below_step hB4 (by first | assumption | exact drewB (by assumption))⟩
theorem sFma_any (x y z : Nat) (hT : Tab w) (hx : x < 18446744073709551616) (hy : y < 18446744073709551616) (hz : z < 18446744073709551616) :
    Calls Tryd.prog 25 #[.float .f64 x, .float .f64 y, .float .f64 z] w fun r w' => r = .returned (.float .f64 (fmaW x y z)) ∧ Below w.heap.size w w' := by
  unfold fmaW
  by_cases hcx : clsI x = 1
  · by_cases hcy : clsI y = 1
    · by_cases hcz : 1 < clsI z
      · rw [if_pos ⟨hcx, hcy, hcz⟩]
        exact sFma_z x y z _ hcx hcy rfl (by rcases cls_cases z with h | h | h | h <;> omega) hx hy hz w
      · rw [if_neg (fun h => hcz h.2.2), if_neg (fun h => h.elim (fun h => h hcx) (fun h => h hcy))]
        exact sFma_num x y z _ hcx hcy rfl (by rcases cls_cases z with h | h | h | h <;> omega) hT hx hy hz
    · rw [if_neg (fun h => hcy h.2.1), if_pos (.inr hcy)]
      exact sFma_y x y z _ hcx rfl (by rcases cls_cases y with h | h | h | h <;> omega) hT hx hy hz
  · rw [if_neg (fun h => hcx h.1), if_pos (.inl hcx)]
    exact sFma_x x y z _ rfl (by rcases cls_cases x with h | h | h | h <;> omega) hT hx hy hz
end
end Go.Proofs.YtjlaadadbpffdaaDoor
