/-
  The reference's Mul of dyads.
-/
import Derived.Test.YtjlaadadbpffdaaGreatDoorDyO
import Derived.Deep.RegionHeld3
import Derived.Deep.RegionWith
set_option linter.unusedSimpArgs false
set_option linter.unusedVariables false
namespace Go.Proofs.YtjlaadadbpffdaaGreatDoor
open Go.RowKit Go.Plumb
section
variable {w : World} {a b : Option Addr} {n c m d : Nat} {l k : List Nat}
set_option maxHeartbeats 4000000 in
set_option maxRecDepth 20000 in
theorem rMul3_ok (s s' : Bool) (e e' : Int) (R : Dy) (r : Int) (h1 : Num w a n c l) (h2 : Num w b m d k) (hl : l.length + k.length ≤ 1000) (hm : mayE e) (hm' : mayE e') (hO : mulO ⟨s, valL l, e⟩ ⟨s', valL k, e'⟩ = (R, r)) :
    Calls Tryz.prog 43 #[.agg #[.bool s, .slice a n c, .int .i64 e], .agg #[.bool s', .slice b m d, .int .i64 e']] w fun x w' => ∃ a' n' c', x = .returned (.tuple #[.agg #[.bool R.s, .slice a' n' c', .int .i64 R.e], .int .i64 r]) ∧ Num w' a' n' c' (limbs R.m) ∧ Below w.heap.size w w' := by
  obtain ⟨X0, Y0, R0⟩ := three_boxes w s s' a b n c m d e e' 24
  unfold mulO at hO
  rw [if_pos ⟨hm, hm'⟩] at hO
  have hM1 := fun w' (hb : Below w.heap.size w w') => rMay3_any s e (h1.below hb) (by omega)
  have hM2 := fun w' (hb : Below w.heap.size w w') => rMay3_any s' e' (h2.below hb) (by omega)
  simp only [decide_eq_true hm] at hM1
  simp only [decide_eq_true hm'] at hM2
  have hN1 := fun w' (hb : Below w.heap.size w w') => rNorm3_any s e (h1.below hb) (by omega) (by have := hm.1; omega) (by have := hm.2; omega)
  have hN2 := fun w' (hb : Below w.heap.size w w') => rNorm3_any s' e' (h2.below hb) (by omega) (by have := hm'.1; omega) (by have := hm'.2; omega)
  have hb0 := nrm_e_may (s := s) h1.limbs (by omega) hm
  have hb0' := nrm_e_may (s := s') h2.limbs (by omega) hm'
  have hb1 := nrm_len (s := s) (e := e) h1.limbs
  have hb1' := nrm_len (s := s') (e := e') h2.limbs
  obtain ⟨X, hX⟩ : ∃ X, nrm ⟨s, valL l, e⟩ = X := ⟨_, rfl⟩
  obtain ⟨Y, hY⟩ : ∃ Y, nrm ⟨s', valL k, e'⟩ = Y := ⟨_, rfl⟩
  simp only [hX] at hN1 hb0 hb1 hO
  simp only [hY] at hN2 hb0' hb1' hO
  obtain ⟨xs, xm, xe⟩ := X
  obtain ⟨ys, ym, ye⟩ := Y
  simp only at hN1 hN2 hb0 hb0' hb1 hb1'
  have hlm : (limbs (xm * ym)).length ≤ 4000 := by
    have := len_mul (limbs_limbs xm) (limbs_limbs ym)
    rw [valL_limbs, valL_limbs] at this
    omega
  have hD := fun w' a' n' c' (hn : Num w' a' n' c' (limbs (xm * ym))) => rDone3_any (xs != ys) (xe + ye) hn hlm (by omega) (by omega)
  have hlen : (limbs xm).length + (limbs ym).length ≤ 4000 := by omega
  simp only [valL_limbs] at hD
  have hO' : doneO ⟨xs != ys, xm * ym, xe + ye⟩ = (R, r) := hO
  simp only [hO'] at hD
  have hwr : IntKind.i64.wrap (xe + ye) = xe + ye := IntWalk.i64_in _ ⟨by omega, by omega⟩
  replace hD : ∀ w' a' n' c', Num w' a' n' c' (limbs (xm * ym)) → Calls Tryz.prog 55 #[.agg #[.bool (!(xs == ys)), .slice a' n' c', .int .i64 (IntKind.i64.wrap (xe + ye))]] w' fun x w'' => ∃ a'' n'' c'', x = .returned (.tuple #[.agg #[.bool R.s, .slice a'' n'' c'', .int .i64 R.e], .int .i64 r]) ∧ Num w'' a'' n'' c'' (limbs R.m) ∧ Below w'.heap.size w' w'' := by
    intro w' a' n' c' hn
    rw [hwr]
    exact hD w' a' n' c' hn
  clear hwr
  clear hX hY hO hO' hm hm' h1 h2 hlm hb1 hb1' hl
  obtain ⟨zs, zm, ze⟩ := R
  simp only at hD ⊢
  go_enter Tryz.func43, Tryz.ntmps43
  go_wp2_with fail
  refine (hM1 _ (by repeat' (first | exact Below.refl _ _ | refine below_alloc ?_ _))).mono ?_
  rintro x w1 ⟨rfl, hb⟩
  have X1 := X0.below hb
  have Y1 := Y0.below hb
  have R1 := R0.below hb
  have HB1 := below_step (w0 := w) (by (repeat' (first | exact Below.refl _ _ | assumption | (refine below_alloc ?_ _) | (refine Below.setCell ?_ ?_ _) | (refine Below.drew ?_) | (refine below_drewN ?_ _))) <;> (first | (simp; done) | (simp; omega) | omega)) hb
  clear hb X0 Y0 R0 hM1
  obtain ⟨x0, x1, x2, _, _, _⟩ := id X1
  obtain ⟨y0, y1, y2, _, _, _⟩ := id Y1
  go_wp2_with fail
  refine (hM2 _ HB1).mono ?_
  rintro x w2 ⟨rfl, hb⟩
  have X2 := X1.below hb
  have Y2 := Y1.below hb
  have R2 := R1.below hb
  have HB2 := below_step HB1 hb
  clear hb X1 Y1 R1 hM2 HB1 x0 x1 x2 y0 y1 y2
  obtain ⟨x0, x1, x2, f0, f1, f2⟩ := id X2
  obtain ⟨y0, y1, y2, g0, g1, g2⟩ := id Y2
  go_wp2_with fail
  go_region_with ((first | (go_at_call 82; (with_reducible refine (hN1 _ (by first | assumption | exact Below.drew (by assumption) | ((repeat' (first | exact Below.refl _ _ | assumption | (refine below_alloc ?_ _) | (refine Below.setCell ?_ ?_ _) | (refine Below.drew ?_) | (refine below_drewN ?_ _))) <;> (first | (simp; done) | (simp; omega) | omega)))).mono ?_); rintro e v1 ⟨p1, q1, r1, rfl, M1, hb⟩; have U1 := Boxed3.below (b := w.heap.size) (by first | assumption | exact Boxed3.drew (by assumption)) hb; have V1 := Boxed3.below (b := w.heap.size + 1) (by first | assumption | exact Boxed3.drew (by assumption)) hb; have T1 := Boxed3.below (b := w.heap.size + 1 + 1) (by first | assumption | exact Boxed3.drew (by assumption)) hb; have HC1 := below_step (w0 := w) (by first | assumption | exact Below.drew (by assumption) | ((repeat' (first | exact Below.refl _ _ | assumption | (refine below_alloc ?_ _) | (refine Below.setCell ?_ ?_ _) | (refine Below.drew ?_) | (refine below_drewN ?_ _))) <;> (first | (simp; done) | (simp; omega) | omega))) hb; obtain ⟨x0, x1, x2, f0, f1, f2⟩ := id U1; obtain ⟨y0, y1, y2, h0, h1, h2⟩ := id V1; clear hb) | (go_at_call 82; (with_reducible refine (hN2 _ (by first | assumption | exact Below.drew (by assumption) | ((repeat' (first | exact Below.refl _ _ | assumption | (refine below_alloc ?_ _) | (refine Below.setCell ?_ ?_ _) | (refine Below.drew ?_) | (refine below_drewN ?_ _))) <;> (first | (simp; done) | (simp; omega) | omega)))).mono ?_); rintro e v2 ⟨p2, q2, r2, rfl, M2, hb⟩; have U2 := Boxed3.below (b := w.heap.size) (by first | assumption | exact Boxed3.drew (by assumption)) hb; have V2 := Boxed3.below (b := w.heap.size + 1) (by first | assumption | exact Boxed3.drew (by assumption)) hb; have T2 := Boxed3.below (b := w.heap.size + 1 + 1) (by first | assumption | exact Boxed3.drew (by assumption)) hb; have HC2 := below_step (w0 := w) (by first | assumption | exact Below.drew (by assumption) | ((repeat' (first | exact Below.refl _ _ | assumption | (refine below_alloc ?_ _) | (refine Below.setCell ?_ ?_ _) | (refine Below.drew ?_) | (refine below_drewN ?_ _))) <;> (first | (simp; done) | (simp; omega) | omega))) hb; have M3 := Num.below M1 hb; obtain ⟨x0, x1, x2, f0, f1, f2⟩ := id U2; obtain ⟨y0, y1, y2, h0, h1, h2⟩ := id V2; clear hb)))
  all_goals obtain ⟨W5, hW5⟩ : ∃ W5, (((((v2.setCell ⟨w.heap.size, 0, none⟩ (.bool xs)).setCell ⟨w.heap.size, 1, none⟩ (.slice p1 q1 r1)).setCell ⟨w.heap.size, 2, none⟩ (.int .i64 xe)).setCell ⟨w.heap.size + 1, 0, none⟩ (.bool ys)).setCell ⟨w.heap.size + 1, 1, none⟩ (.slice p2 q2 r2)).setCell ⟨w.heap.size + 1, 2, none⟩ (.int .i64 ye) = W5 := ⟨_, rfl⟩
  all_goals have V3 := ((V2.other (k := w.heap.size) (by omega) 0 (.bool xs)).other (k := w.heap.size) (by omega) 1 (.slice p1 q1 r1)).other (k := w.heap.size) (by omega) 2 (.int .i64 xe)
  all_goals have U3 := U2.fill xs p1 q1 r1 xe
  all_goals have X5 : Boxed3 W5 w.heap.size xs p1 q1 r1 xe := by rw [← hW5]; exact ((U3.other (by omega) _ _).other (by omega) _ _).other (by omega) _ _
  all_goals have Y5 : Boxed3 W5 (w.heap.size + 1) ys p2 q2 r2 ye := by rw [← hW5]; exact V3.fill ..
  all_goals have R5 : Boxed3 W5 (w.heap.size + 1 + 1) false none 0 0 0 := by rw [← hW5]; exact (((((T2.other (by omega) _ _).other (by omega) _ _).other (by omega) _ _).other (by omega) _ _).other (by omega) _ _).other (by omega) _ _
  all_goals have L1 : Num W5 p1 q1 r1 (limbs xm) := by rw [← hW5]; exact Num.fill V3 (Num.fill U2 M3 ..) ..
  all_goals have L2 : Num W5 p2 q2 r2 (limbs ym) := by rw [← hW5]; exact Num.fill V3 (Num.fill U2 M2 ..) ..
  all_goals have HB5 : Below w.heap.size w W5 := by rw [← hW5]; exact Below.fill3 (Below.fill3 HC2 (Nat.le_refl _) _ _ _) (Nat.le_succ _) _ _ _
  all_goals rw [hW5]
  all_goals clear hW5 U3 V3 U1 V1 T1 HC1 M1 U2 V2 T2 HC2 M2 M3 x0 x1 x2 f0 f1 f2 y0 y1 y2 X2 Y2 R2 HB2 hN1 hN2
  all_goals obtain ⟨x0, x1, x2, f0, f1, f2⟩ := id X5
  all_goals obtain ⟨y0, y1, y2, f3, f4, f5⟩ := id Y5
  all_goals go_wp2_with fail
  all_goals go_region_held3 (fun wx => Below w.heap.size w wx ∧ wx.cell? ⟨w.heap.size, 0, none⟩ = some (.bool xs) ∧ wx.cell? ⟨w.heap.size, 1, none⟩ = some (.slice p1 q1 r1) ∧ wx.cell? ⟨w.heap.size, 2, none⟩ = some (.int .i64 xe) ∧ wx.cell? ⟨w.heap.size + 1, 0, none⟩ = some (.bool ys) ∧ wx.cell? ⟨w.heap.size + 1, 1, none⟩ = some (.slice p2 q2 r2) ∧ wx.cell? ⟨w.heap.size + 1, 2, none⟩ = some (.int .i64 ye)) (first | (refine ⟨?_, ?_, ?_, ?_, ?_, ?_, ?_⟩ <;> first | assumption | exact Below.drew (by assumption)) | exact ⟨Below.fill3 HB7 (by omega) _ _ _, (X7.other3 (by omega) _ _ _).c0, (X7.other3 (by omega) _ _ _).c1, (X7.other3 (by omega) _ _ _).c2, (Y7.other3 (by omega) _ _ _).c0, (Y7.other3 (by omega) _ _ _).c1, (Y7.other3 (by omega) _ _ _).c2⟩) ((first | (go_at_call 91; (with_reducible refine (rmul_n (xm * ym) (Num.drew L1) (Num.drew L2) (by rw [valL_limbs, valL_limbs]) hlen).mono ?_); rintro e v6 ⟨p6, q6, r6, rfl, M6, hb⟩; have X6 := (X5.drew).below hb; have Y6 := (Y5.drew).below hb; have R6 := (R5.drew).below hb; have HB6 := below_step (w0 := w) (Below.drew HB5) hb; have hD6 := hD _ _ _ _ M6; clear x0 x1 x2 f0 f1 f2 y0 y1 y2 f3 f4 f5; obtain ⟨x0, x1, x2, f0, f1, f2⟩ := id X6; obtain ⟨y0, y1, y2, f3, f4, f5⟩ := id Y6; clear hb) | (go_at_call 55; (with_reducible refine hD6.mono ?_); rintro e v7 ⟨p7, q7, r7, rfl, M7, hb⟩; have X7 := X6.below hb; have Y7 := Y6.below hb; have R7 := R6.below hb; have HB7 := below_step (w0 := w) HB6 hb; clear x0 x1 x2 f0 f1 f2 y0 y1 y2 f3 f4 f5; obtain ⟨x0, x1, x2, f0, f1, f2⟩ := id X7; obtain ⟨y0, y1, y2, f3, f4, f5⟩ := id Y7; obtain ⟨r0, r1', r2', g0, g1, g2⟩ := id R7; clear hb)))
  all_goals go_wp2_with fail
  all_goals exact bodyPost_ret (v := .tuple #[.agg #[.bool zs, .slice p7 q7 r7, .int .i64 ze], .int .i64 r]) (by simp [results, Tryz.results43, go_sem, r0, r1', r2', g0, g1, g2]) rfl ⟨p7, q7, r7, rfl, Num.fill R7 M7 .., Below.fill3 HB7 (by omega) _ _ _⟩
theorem rMul3_bad1 (s s' : Bool) (e e' : Int) (h1 : Num w a n c l) (hl : l.length ≤ 4000) (hm : ¬ mayE e) :
    Calls Tryz.prog 43 #[.agg #[.bool s, .slice a n c, .int .i64 e], .agg #[.bool s', .slice b m d, .int .i64 e']] w fun x w' => ∃ a' n' c', x = .returned (.tuple #[.agg #[.bool false, .slice a' n' c', .int .i64 0], .int .i64 2]) ∧ Num w' a' n' c' (limbs 0) ∧ Below w.heap.size w w' := by
  obtain ⟨X0, Y0, R0⟩ := three_boxes w s s' a b n c m d e e' 24
  have hM1 := fun w' (hb : Below w.heap.size w w') => rMay3_any s e (h1.below hb) hl
  simp only [decide_eq_false hm] at hM1
  clear hm h1
  go_enter Tryz.func43, Tryz.ntmps43
  go_wp2_with fail
  refine (hM1 _ (by repeat' (first | exact Below.refl _ _ | refine below_alloc ?_ _))).mono ?_
  rintro x w1 ⟨rfl, hb⟩
  have R1 := R0.below hb
  have HB1 := below_step (w0 := w) (by (repeat' (first | exact Below.refl _ _ | assumption | (refine below_alloc ?_ _) | (refine Below.setCell ?_ ?_ _) | (refine Below.drew ?_) | (refine below_drewN ?_ _))) <;> (first | (simp; done) | (simp; omega) | omega)) hb
  clear hb X0 Y0 R0 hM1
  obtain ⟨r0, r1, r2, g0, g1, g2⟩ := id R1
  go_wp2_with fail
  exact bodyPost_ret (v := .tuple #[.agg #[.bool false, .slice none 0 0, .int .i64 0], .int .i64 2]) (by simp [results, Tryz.results43, go_sem, r0, r1, r2, g0, g1, g2]) rfl ⟨none, 0, 0, rfl, (by show Num _ _ _ _ (limbs 0); rw [limbs_zero]; exact Num.nil _), by (repeat' (first | exact Below.refl _ _ | assumption | (refine below_alloc ?_ _) | (refine Below.setCell ?_ ?_ _) | (refine Below.drew ?_) | (refine below_drewN ?_ _))) <;> (first | (simp; done) | (simp; omega) | omega)⟩
theorem rMul3_bad2 (s s' : Bool) (e e' : Int) (h1 : Num w a n c l) (h2 : Num w b m d k) (hl : l.length ≤ 4000) (hl' : k.length ≤ 4000) (hm : mayE e) (hm' : ¬ mayE e') :
    Calls Tryz.prog 43 #[.agg #[.bool s, .slice a n c, .int .i64 e], .agg #[.bool s', .slice b m d, .int .i64 e']] w fun x w' => ∃ a' n' c', x = .returned (.tuple #[.agg #[.bool false, .slice a' n' c', .int .i64 0], .int .i64 2]) ∧ Num w' a' n' c' (limbs 0) ∧ Below w.heap.size w w' := by
  obtain ⟨X0, Y0, R0⟩ := three_boxes w s s' a b n c m d e e' 24
  have hM1 := fun w' (hb : Below w.heap.size w w') => rMay3_any s e (h1.below hb) hl
  have hM2 := fun w' (hb : Below w.heap.size w w') => rMay3_any s' e' (h2.below hb) hl'
  simp only [decide_eq_true hm] at hM1
  simp only [decide_eq_false hm'] at hM2
  clear hm hm' h1 h2
  go_enter Tryz.func43, Tryz.ntmps43
  go_wp2_with fail
  refine (hM1 _ (by repeat' (first | exact Below.refl _ _ | refine below_alloc ?_ _))).mono ?_
  rintro x w1 ⟨rfl, hb⟩
  have Y1 := Y0.below hb
  have R1 := R0.below hb
  have HB1 := below_step (w0 := w) (by (repeat' (first | exact Below.refl _ _ | assumption | (refine below_alloc ?_ _) | (refine Below.setCell ?_ ?_ _) | (refine Below.drew ?_) | (refine below_drewN ?_ _))) <;> (first | (simp; done) | (simp; omega) | omega)) hb
  clear hb X0 Y0 R0 hM1
  obtain ⟨y0, y1, y2, _, _, _⟩ := id Y1
  go_wp2_with fail
  refine (hM2 _ HB1).mono ?_
  rintro x w2 ⟨rfl, hb⟩
  have R2 := R1.below hb
  have HB2 := below_step HB1 hb
  clear hb Y1 R1 hM2 HB1 y0 y1 y2
  obtain ⟨r0, r1, r2, g0, g1, g2⟩ := id R2
  go_wp2_with fail
  exact bodyPost_ret (v := .tuple #[.agg #[.bool false, .slice none 0 0, .int .i64 0], .int .i64 2]) (by simp [results, Tryz.results43, go_sem, r0, r1, r2, g0, g1, g2]) rfl ⟨none, 0, 0, rfl, (by show Num _ _ _ _ (limbs 0); rw [limbs_zero]; exact Num.nil _), by (repeat' (first | exact Below.refl _ _ | assumption | (refine below_alloc ?_ _) | (refine Below.setCell ?_ ?_ _) | (refine Below.drew ?_) | (refine below_drewN ?_ _))) <;> (first | (simp; done) | (simp; omega) | omega)⟩
theorem rMul3_any (s s' : Bool) (e e' : Int) (R : Dy) (r : Int) (h1 : Num w a n c l) (h2 : Num w b m d k) (hl : l.length + k.length ≤ 1000) (hO : mulO ⟨s, valL l, e⟩ ⟨s', valL k, e'⟩ = (R, r)) :
    Calls Tryz.prog 43 #[.agg #[.bool s, .slice a n c, .int .i64 e], .agg #[.bool s', .slice b m d, .int .i64 e']] w fun x w' => ∃ a' n' c', x = .returned (.tuple #[.agg #[.bool R.s, .slice a' n' c', .int .i64 R.e], .int .i64 r]) ∧ Num w' a' n' c' (limbs R.m) ∧ Below w.heap.size w w' := by
  by_cases hm : mayE e
  · by_cases hm' : mayE e'
    · exact rMul3_ok s s' e e' R r h1 h2 hl hm hm' hO
    · unfold mulO at hO
      rw [if_neg (fun h => hm' h.2)] at hO
      obtain ⟨rfl, rfl⟩ : zeroD = R ∧ 2 = r := ⟨congrArg Prod.fst hO, congrArg Prod.snd hO⟩
      exact rMul3_bad2 s s' e e' h1 h2 (by omega) (by omega) hm hm'
  · unfold mulO at hO
    rw [if_neg (fun h => hm h.1)] at hO
    obtain ⟨rfl, rfl⟩ : zeroD = R ∧ 2 = r := ⟨congrArg Prod.fst hO, congrArg Prod.snd hO⟩
    exact rMul3_bad1 s s' e e' h1 (by omega) hm
end
end Go.Proofs.YtjlaadadbpffdaaGreatDoor
