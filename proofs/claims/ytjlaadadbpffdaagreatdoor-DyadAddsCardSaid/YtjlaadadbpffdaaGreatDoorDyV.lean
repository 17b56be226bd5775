/-
  The reference's Add and Sub of dyads; which two are apart.
-/
import Derived.Test.YtjlaadadbpffdaaGreatDoorDyS
import Derived.Test.YtjlaadadbpffdaaGreatDoorDyT
set_option linter.unusedSimpArgs false
set_option linter.unusedVariables false
namespace Go.Plumb
/-- Which two the law does not sum. -/
def apartP (x y : Int) : Prop := 1099511627776 < x ∨ 1099511627776 < y ∨ x < -1099511627776 ∨ y < -1099511627776 ∨ (6000 < x - y ∧ x - y < 300000) ∨ (6000 < y - x ∧ y - x < 300000)
instance (x y : Int) : Decidable (apartP x y) := by unfold apartP; infer_instance
end Go.Plumb
namespace Go.Proofs.YtjlaadadbpffdaaGreatDoor
open Go.RowKit Go.Plumb
section
variable {w : World} {a b : Option Addr} {n c m d : Nat} {l k : List Nat}
theorem rAdd3_bad1 (s s' : Bool) (e e' : Int) (h1 : Num w a n c l) (hl : l.length ≤ 4000) (hm : ¬ mayE e) :
    Calls Tryz.prog 39 #[.agg #[.bool s, .slice a n c, .int .i64 e], .agg #[.bool s', .slice b m d, .int .i64 e']] w fun x w' => ∃ a' n' c', x = .returned (.tuple #[.agg #[.bool false, .slice a' n' c', .int .i64 0], .int .i64 2]) ∧ Num w' a' n' c' (limbs 0) ∧ Below w.heap.size w w' := by
  obtain ⟨X0, Y0, R0⟩ := three_boxes w s s' a b n c m d e e' 24
  have hM1 := fun w' (hb : Below w.heap.size w w') => rMay3_any s e (h1.below hb) hl
  simp only [decide_eq_false hm] at hM1
  clear hm h1
  go_enter Tryz.func39, Tryz.ntmps39
  go_wp2_with fail
  refine (hM1 _ (by repeat' (first | exact Below.refl _ _ | refine below_alloc ?_ _))).mono ?_
  rintro x w1 ⟨rfl, hb⟩
  have R1 := R0.below hb
  have HB1 := below_step (w0 := w) (by (repeat' (first | exact Below.refl _ _ | assumption | (refine below_alloc ?_ _) | (refine Below.setCell ?_ ?_ _) | (refine Below.drew ?_) | (refine below_drewN ?_ _))) <;> (first | (simp; done) | (simp; omega) | omega)) hb
  clear hb X0 Y0 R0 hM1
  obtain ⟨r0, r1, r2, g0, g1, g2⟩ := id R1
  go_wp2_with fail
  exact bodyPost_ret (v := .tuple #[.agg #[.bool false, .slice none 0 0, .int .i64 0], .int .i64 2]) (by simp [results, Tryz.results39, go_sem, r0, r1, r2, g0, g1, g2]) rfl ⟨none, 0, 0, rfl, (by show Num _ _ _ _ (limbs 0); rw [limbs_zero]; exact Num.nil _), by (repeat' (first | exact Below.refl _ _ | assumption | (refine below_alloc ?_ _) | (refine Below.setCell ?_ ?_ _) | (refine Below.drew ?_) | (refine below_drewN ?_ _))) <;> (first | (simp; done) | (simp; omega) | omega)⟩
theorem rAdd3_bad2 (s s' : Bool) (e e' : Int) (h1 : Num w a n c l) (h2 : Num w b m d k) (hl : l.length ≤ 4000) (hl' : k.length ≤ 4000) (hm : mayE e) (hm' : ¬ mayE e') :
    Calls Tryz.prog 39 #[.agg #[.bool s, .slice a n c, .int .i64 e], .agg #[.bool s', .slice b m d, .int .i64 e']] w fun x w' => ∃ a' n' c', x = .returned (.tuple #[.agg #[.bool false, .slice a' n' c', .int .i64 0], .int .i64 2]) ∧ Num w' a' n' c' (limbs 0) ∧ Below w.heap.size w w' := by
  obtain ⟨X0, Y0, R0⟩ := three_boxes w s s' a b n c m d e e' 24
  have hM1 := fun w' (hb : Below w.heap.size w w') => rMay3_any s e (h1.below hb) hl
  have hM2 := fun w' (hb : Below w.heap.size w w') => rMay3_any s' e' (h2.below hb) hl'
  simp only [decide_eq_true hm] at hM1
  simp only [decide_eq_false hm'] at hM2
  clear hm hm' h1 h2
  go_enter Tryz.func39, Tryz.ntmps39
  go_wp2_with fail
  refine (hM1 _ (by repeat' (first | exact Below.refl _ _ | refine below_alloc ?_ _))).mono ?_
  rintro x w1 ⟨rfl, hb⟩
  have Y1 := Y0.below hb
  have R1 := R0.below hb
  have HB1 := below_step (w0 := w) (by (repeat' (first | exact Below.refl _ _ | assumption | (refine below_alloc ?_ _) | (refine Below.setCell ?_ ?_ _) | (refine Below.drew ?_) | (refine below_drewN ?_ _))) <;> (first | (simp; done) | (simp; omega) | omega)) hb
  clear hb X0 Y0 R0 hM1
  obtain ⟨y0, y1, y2, _, _, _⟩ := id Y1
  go_wp2_with fail
  refine (hM2 _ HB1).mono ?_
  rintro x w2 ⟨rfl, hb⟩
  have R2 := R1.below hb
  have HB2 := below_step HB1 hb
  clear hb Y1 R1 hM2 HB1 y0 y1 y2
  obtain ⟨r0, r1, r2, g0, g1, g2⟩ := id R2
  go_wp2_with fail
  exact bodyPost_ret (v := .tuple #[.agg #[.bool false, .slice none 0 0, .int .i64 0], .int .i64 2]) (by simp [results, Tryz.results39, go_sem, r0, r1, r2, g0, g1, g2]) rfl ⟨none, 0, 0, rfl, (by show Num _ _ _ _ (limbs 0); rw [limbs_zero]; exact Num.nil _), by (repeat' (first | exact Below.refl _ _ | assumption | (refine below_alloc ?_ _) | (refine Below.setCell ?_ ?_ _) | (refine Below.drew ?_) | (refine below_drewN ?_ _))) <;> (first | (simp; done) | (simp; omega) | omega)⟩
theorem rAdd3_any (s s' : Bool) (e e' : Int) (R : Dy) (r : Int) (h1 : Num w a n c l) (h2 : Num w b m d k) (hl : l.length + k.length ≤ 1000) (hnear : farD (nrm ⟨s, valL l, e⟩) (nrm ⟨s', valL k, e'⟩) ∨ nearD (nrm ⟨s, valL l, e⟩) (nrm ⟨s', valL k, e'⟩)) (hO : addO ⟨s, valL l, e⟩ ⟨s', valL k, e'⟩ = (R, r)) :
    Calls Tryz.prog 39 #[.agg #[.bool s, .slice a n c, .int .i64 e], .agg #[.bool s', .slice b m d, .int .i64 e']] w fun x w' => ∃ a' n' c', x = .returned (.tuple #[.agg #[.bool R.s, .slice a' n' c', .int .i64 R.e], .int .i64 r]) ∧ Num w' a' n' c' (limbs R.m) ∧ Below w.heap.size w w' := by
  by_cases hm : mayE e
  · by_cases hm' : mayE e'
    · exact rAdd3_ok s s' e e' R r h1 h2 hl hm hm' hnear hO
    · unfold addO at hO
      rw [if_neg (fun h => hm' h.2)] at hO
      obtain ⟨rfl, rfl⟩ : zeroD = R ∧ 2 = r := ⟨congrArg Prod.fst hO, congrArg Prod.snd hO⟩
      exact rAdd3_bad2 s s' e e' h1 h2 (by omega) (by omega) hm hm'
  · unfold addO at hO
    rw [if_neg (fun h => hm h.1)] at hO
    obtain ⟨rfl, rfl⟩ : zeroD = R ∧ 2 = r := ⟨congrArg Prod.fst hO, congrArg Prod.snd hO⟩
    exact rAdd3_bad1 s s' e e' h1 (by omega) hm
set_option maxHeartbeats 4000000 in
theorem rSub3_any (s s' : Bool) (e e' : Int) (R : Dy) (r : Int) (h1 : Num w a n c l) (h2 : Num w b m d k) (hl : l.length + k.length ≤ 1000) (hnear : farD (nrm ⟨s, valL l, e⟩) (nrm ⟨!s', valL k, e'⟩) ∨ nearD (nrm ⟨s, valL l, e⟩) (nrm ⟨!s', valL k, e'⟩)) (hO : addO ⟨s, valL l, e⟩ ⟨!s', valL k, e'⟩ = (R, r)) :
    Calls Tryz.prog 41 #[.agg #[.bool s, .slice a n c, .int .i64 e], .agg #[.bool s', .slice b m d, .int .i64 e']] w fun x w' => ∃ a' n' c', x = .returned (.tuple #[.agg #[.bool R.s, .slice a' n' c', .int .i64 R.e], .int .i64 r]) ∧ Num w' a' n' c' (limbs R.m) ∧ Below w.heap.size w w' := by
  obtain ⟨X0, Y0, R0⟩ := three_boxes w s s' a b n c m d e e' 24
  obtain ⟨W0, hW0⟩ : ∃ W0, ((w.alloc (.cells #[.bool s, .slice a n c, .int .i64 e] 24)).alloc (.cells #[.bool s', .slice b m d, .int .i64 e'] 24)).alloc (.cells #[.bool false, .slice none 0 0, .int .i64 0] 24) = W0 := ⟨_, rfl⟩
  have HB0 : Below w.heap.size w W0 := by rw [← hW0]; (repeat' (first | exact Below.refl _ _ | assumption | (refine below_alloc ?_ _) | (refine Below.setCell ?_ ?_ _) | (refine Below.drew ?_) | (refine below_drewN ?_ _))) <;> (first | (simp; done) | (simp; omega) | omega)
  rw [hW0] at X0 Y0 R0
  have h1' := h1.below HB0
  have h2' := h2.below HB0
  have hT := fun wx (h : Below W0.heap.size W0 wx) => rTurn3_any s' e' (h2'.below h)
  have hA := fun wx (h : Below W0.heap.size W0 wx) => rAdd3_any s (!s') e e' R r (h1'.below h) (h2'.below h) hl hnear hO
  have HW0 := Lib.hid hW0
  have X0' := Lib.hid X0
  have R0' := Lib.hid R0
  clear hW0 h1 h2 hl hnear hO h1' h2' R0
  go_enter Tryz.func41, Tryz.ntmps41
  go_wp2_with fail
  rw [HW0.out]
  clear HW0
  obtain ⟨x0, x1, x2, _, _, _⟩ := id X0
  obtain ⟨y0, y1, y2, _, _, _⟩ := id Y0
  have Y0' := Lib.hid Y0
  clear X0 Y0
  have HK := Below.refl W0.heap.size W0
  go_region_held3 (fun wx => Below w.heap.size w wx ∧ wx.cell? ⟨w.heap.size, 0, none⟩ = some (.bool s) ∧ wx.cell? ⟨w.heap.size, 1, none⟩ = some (.slice a n c) ∧ wx.cell? ⟨w.heap.size, 2, none⟩ = some (.int .i64 e) ∧ wx.cell? ⟨w.heap.size + 1, 0, none⟩ = some (.bool s') ∧ wx.cell? ⟨w.heap.size + 1, 1, none⟩ = some (.slice b m d) ∧ wx.cell? ⟨w.heap.size + 1, 2, none⟩ = some (.int .i64 e')) (first | (refine ⟨?_, ?_, ?_, ?_, ?_, ?_, ?_⟩ <;> first | assumption | exact Below.drew (by assumption)) | exact ⟨Below.fill3 HB7 (by omega) _ _ _, (X7.other3 (by omega) _ _ _).c0, (X7.other3 (by omega) _ _ _).c1, (X7.other3 (by omega) _ _ _).c2, (Y7.other3 (by omega) _ _ _).c0, (Y7.other3 (by omega) _ _ _).c1, (Y7.other3 (by omega) _ _ _).c2⟩) ((first | (go_at_call 114; (with_reducible refine (hT _ (by first | assumption | exact Below.drew (by assumption))).mono ?_); rintro e v6 ⟨rfl, hb⟩; have HK6 := below_step (w0 := W0) (by first | assumption | exact Below.drew (by assumption)) hb; have HB6 := below_step HB0 HK6; clear x0 x1 x2 y0 y1 y2; obtain ⟨x0, x1, x2, _, _, _⟩ := id (X0'.out.below HK6); obtain ⟨y0, y1, y2, _, _, _⟩ := id (Y0'.out.below HK6); clear hb) | (go_at_call 39; (with_reducible refine (hA _ (by first | assumption | exact Below.drew (by assumption))).mono ?_); rintro e v7 ⟨p7, q7, r7, rfl, M7, hb⟩; have HK7 := below_step (w0 := W0) HK6 hb; have HB7 := below_step HB0 HK7; clear x0 x1 x2 y0 y1 y2; have X7 := X0'.out.below HK7; have Y7 := Y0'.out.below HK7; obtain ⟨x0, x1, x2, _, _, _⟩ := id X7; obtain ⟨y0, y1, y2, _, _, _⟩ := id Y7; have R7 := R0'.out.below HK7; obtain ⟨r0, r1', r2', g0, g1, g2⟩ := id R7; clear hb)))
  go_wp2_with fail
  exact bodyPost_ret (v := .tuple #[.agg #[.bool R.s, .slice p7 q7 r7, .int .i64 R.e], .int .i64 r]) (by simp [results, Tryz.results41, go_sem, r0, r1', r2', g0, g1, g2]) rfl ⟨p7, q7, r7, rfl, Num.fill R7 M7 .., Below.fill3 HB7 (by omega) _ _ _⟩
set_option maxHeartbeats 4000000 in
theorem lapart_any (s s' : Bool) (e e' : Int) (b0 : -9223372036854775808 ≤ e) (b1 : e ≤ 9223372036854775807) (b2 : -9223372036854775808 ≤ e') (b3 : e' ≤ 9223372036854775807) :
    Calls Tryz.prog 37 #[.agg #[.bool s, .slice a n c, .int .i64 e], .agg #[.bool s', .slice b m d, .int .i64 e']] w fun x w' => x = .returned (.bool (decide (apartP e e'))) ∧ Below w.heap.size w w' := by
  obtain ⟨r, hr⟩ : ∃ r, decide (apartP e e') = r := ⟨_, rfl⟩
  rw [hr]
  have yes : apartP e e' → r = true := fun h => by rw [← hr]; exact decide_eq_true h
  have no : ¬ apartP e e' → r = false := fun h => by rw [← hr]; exact decide_eq_false h
  have hiff : apartP e e' ↔ (1099511627776 < e ∨ 1099511627776 < e' ∨ e < -1099511627776 ∨ e' < -1099511627776 ∨ (6000 < e - e' ∧ e - e' < 300000) ∨ (6000 < e' - e ∧ e' - e < 300000)) := Iff.rfl
  clear hr
  rw [hiff] at yes no
  clear hiff
  by_cases c1 : 1099511627776 < e
  · obtain rfl := yes (by omega)
    clear yes no
    go_enter Tryz.func37, Tryz.ntmps37
    go_wp2_with fail
    go_ret
    exact ⟨rfl, by (repeat' (first | exact Below.refl _ _ | assumption | (refine below_alloc ?_ _) | (refine Below.setCell ?_ ?_ _) | (refine Below.drew ?_) | (refine below_drewN ?_ _))) <;> (first | (simp; done) | (simp; omega) | omega)⟩
  by_cases c2 : 1099511627776 < e'
  · obtain rfl := yes (by omega)
    clear yes no
    go_enter Tryz.func37, Tryz.ntmps37
    go_wp2_with fail
    go_ret
    exact ⟨rfl, by (repeat' (first | exact Below.refl _ _ | assumption | (refine below_alloc ?_ _) | (refine Below.setCell ?_ ?_ _) | (refine Below.drew ?_) | (refine below_drewN ?_ _))) <;> (first | (simp; done) | (simp; omega) | omega)⟩
  by_cases c3 : e < -1099511627776
  · obtain rfl := yes (by omega)
    clear yes no
    go_enter Tryz.func37, Tryz.ntmps37
    go_wp2_with fail
    go_ret
    exact ⟨rfl, by (repeat' (first | exact Below.refl _ _ | assumption | (refine below_alloc ?_ _) | (refine Below.setCell ?_ ?_ _) | (refine Below.drew ?_) | (refine below_drewN ?_ _))) <;> (first | (simp; done) | (simp; omega) | omega)⟩
  by_cases c4 : e' < -1099511627776
  · obtain rfl := yes (by omega)
    clear yes no
    go_enter Tryz.func37, Tryz.ntmps37
    go_wp2_with fail
    go_ret
    exact ⟨rfl, by (repeat' (first | exact Below.refl _ _ | assumption | (refine below_alloc ?_ _) | (refine Below.setCell ?_ ?_ _) | (refine Below.drew ?_) | (refine below_drewN ?_ _))) <;> (first | (simp; done) | (simp; omega) | omega)⟩
  have hc : (6000 < e - e' ∧ e - e' < 300000 ∧ r = true) ∨ (6000 < e - e' ∧ ¬ e - e' < 300000 ∧ ¬ 6000 < e' - e ∧ r = false) ∨ (¬ 6000 < e - e' ∧ 6000 < e' - e ∧ e' - e < 300000 ∧ r = true) ∨ (¬ 6000 < e - e' ∧ 6000 < e' - e ∧ ¬ e' - e < 300000 ∧ r = false) ∨ (¬ 6000 < e - e' ∧ ¬ 6000 < e' - e ∧ r = false) := by
    by_cases d1 : 6000 < e - e'
    · by_cases d2 : e - e' < 300000
      · exact .inl ⟨d1, d2, yes (by omega)⟩
      · exact .inr (.inl ⟨d1, d2, by omega, no (by omega)⟩)
    · by_cases d3 : 6000 < e' - e
      · by_cases d4 : e' - e < 300000
        · exact .inr (.inr (.inl ⟨d1, d3, d4, yes (by omega)⟩))
        · exact .inr (.inr (.inr (.inl ⟨d1, d3, d4, no (by omega)⟩)))
      · exact .inr (.inr (.inr (.inr ⟨d1, d3, no (by omega)⟩)))
  clear yes no
  rcases hc with ⟨d1, d2, rfl⟩ | ⟨d1, d2, d3, rfl⟩ | ⟨d1, d2, d3, rfl⟩ | ⟨d1, d2, d3, rfl⟩ | ⟨d1, d2, rfl⟩
  all_goals go_enter Tryz.func37, Tryz.ntmps37
  all_goals go_wp2_with fail
  all_goals go_ret
  all_goals exact ⟨rfl, by (repeat' (first | exact Below.refl _ _ | assumption | (refine below_alloc ?_ _) | (refine Below.setCell ?_ ?_ _) | (refine Below.drew ?_) | (refine below_drewN ?_ _))) <;> (first | (simp; done) | (simp; omega) | omega)⟩
end
end Go.Proofs.YtjlaadadbpffdaaGreatDoor
