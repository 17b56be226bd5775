/-
  The reference's dyads: Turn, Neg, Abs, Sign, Shift; the law package's long.
-/
import Derived.Test.YtjlaadadbpffdaaGreatDoorDyO
set_option linter.unusedSimpArgs false
set_option linter.unusedVariables false
namespace Go.Proofs.YtjlaadadbpffdaaGreatDoor
open Go.RowKit Go.Plumb
section
variable {w : World} {a b : Option Addr} {n c m d : Nat} {l k : List Nat}
theorem llong_any (s : Bool) (e : Int) (hn : n ≤ 9223372036854775807) : Calls Tryz.prog 36 #[.agg #[.bool s, .slice a n c, .int .i64 e]] w fun x w' => x = .returned (.bool (decide ((40 : Int) < (n : Int)))) ∧ Below w.heap.size w w' := by
  go_enter Tryz.func36, Tryz.ntmps36
  go_wp2_with fail
  go_ret
  exact ⟨rfl, by (repeat' (first | exact Below.refl _ _ | assumption | (refine below_alloc ?_ _) | (refine Below.setCell ?_ ?_ _) | (refine Below.drew ?_) | (refine below_drewN ?_ _))) <;> (first | (simp; done) | (simp; omega) | omega)⟩
theorem rTurn3_any (s : Bool) (e : Int) (h1 : Num w a n c l) : Calls Tryz.prog 114 #[.agg #[.bool s, .slice a n c, .int .i64 e]] w fun x w' => x = .returned (.agg #[.bool (!s), .slice a n c, .int .i64 e]) ∧ Below w.heap.size w w' := by
  clear h1
  go_enter Tryz.func114, Tryz.ntmps114
  go_wp2_with fail
  exact bodyPost_ret (v := .agg #[.bool (!s), .slice a n c, .int .i64 e]) (by simp [results, Tryz.results114, go_sem]) rfl ⟨rfl, by (repeat' (first | exact Below.refl _ _ | assumption | (refine below_alloc ?_ _) | (refine Below.setCell ?_ ?_ _) | (refine Below.drew ?_) | (refine below_drewN ?_ _))) <;> (first | (simp; done) | (simp; omega) | omega)⟩
set_option maxHeartbeats 2000000 in
theorem rNeg3_any (s : Bool) (e : Int) (R : Dy) (r : Int) (h1 : Num w a n c l) (hl : l.length ≤ 4000) (hO : normO ⟨!s, valL l, e⟩ = (R, r)) :
    Calls Tryz.prog 56 #[.agg #[.bool s, .slice a n c, .int .i64 e]] w fun x w' => ∃ a' n' c', x = .returned (.tuple #[.agg #[.bool R.s, .slice a' n' c', .int .i64 R.e], .int .i64 r]) ∧ Num w' a' n' c' (limbs R.m) ∧ Below w.heap.size w w' := by
  have X0 := (Boxed3.new w s a n c e 24 rfl).alloc (.cells #[.bool false, .slice none 0 0, .int .i64 0] 24)
  have R0 := Boxed3.new (w.alloc (.cells #[.bool s, .slice a n c, .int .i64 e] 24)) false none 0 0 0 24 (g := w.heap.size + 1) (by simp)
  have hM := fun w' (hb : Below w.heap.size w w') => rMay3_any s e (h1.below hb) hl
  have hTn := fun w' (hb : Below w.heap.size w w') => rTurn3_any s e (h1.below hb)
  unfold normO at hO
  by_cases hm : mayE e
  · rw [if_pos (by exact hm)] at hO
    simp only [decide_eq_true hm] at hM
    have hD := fun w' (hb : Below w.heap.size w w') => rDone3_any (!s) e (h1.below hb) hl (by have := hm.1; omega) (by have := hm.2; omega)
    simp only [hO] at hD
    clear hO hm h1
    go_enter Tryz.func56, Tryz.ntmps56
    go_wp2_with fail
    refine (hM _ (by repeat' (first | exact Below.refl _ _ | refine below_alloc ?_ _))).mono ?_
    rintro x w1 ⟨rfl, hb⟩
    have X1 := X0.below hb
    have R1 := R0.below hb
    have hB1 := below_step (w0 := w) (by (repeat' (first | exact Below.refl _ _ | assumption | (refine below_alloc ?_ _) | (refine Below.setCell ?_ ?_ _) | (refine Below.drew ?_) | (refine below_drewN ?_ _))) <;> (first | (simp; done) | (simp; omega) | omega)) hb
    obtain ⟨x0, x1, x2, f0, f1, f2⟩ := id X1
    clear hM X0 R0 hb
    go_wp2_with fail
    refine (hTn _ hB1).mono ?_
    rintro x w2 ⟨rfl, hb⟩
    have R2 := R1.below hb
    have hB2 := below_step hB1 hb
    clear hTn X1 R1 hb hB1 x0 x1 x2 f0 f1 f2
    go_wp2_with fail
    refine (hD _ hB2).mono ?_
    rintro x w3 ⟨a3, n3, c3, rfl, N3, hb⟩
    have R3 := R2.below hb
    have hB3 := below_step hB2 hb
    obtain ⟨r0, r1, r2, g0, g1, g2⟩ := id R3
    clear hD R2 hb hB2
    go_wp2_with fail
    exact bodyPost_ret (v := .tuple #[.agg #[.bool R.s, .slice a3 n3 c3, .int .i64 R.e], .int .i64 r]) (by simp [results, Tryz.results56, go_sem, r0, r1, r2, g0, g1, g2]) rfl ⟨a3, n3, c3, rfl, Num.fill R3 N3 .., by (repeat' (first | exact Below.refl _ _ | assumption | (refine below_alloc ?_ _) | (refine Below.setCell ?_ ?_ _) | (refine Below.drew ?_) | (refine below_drewN ?_ _))) <;> (first | (simp; done) | (simp; omega) | omega)⟩
  · rw [if_neg (by exact hm)] at hO
    obtain ⟨rfl, rfl⟩ : zeroD = R ∧ 2 = r := ⟨congrArg Prod.fst hO, congrArg Prod.snd hO⟩
    simp only [decide_eq_false hm] at hM
    clear hO hm h1 hTn
    go_enter Tryz.func56, Tryz.ntmps56
    go_wp2_with fail
    refine (hM _ (by repeat' (first | exact Below.refl _ _ | refine below_alloc ?_ _))).mono ?_
    rintro x w1 ⟨rfl, hb⟩
    have R1 := R0.below hb
    have hB1 := below_step (w0 := w) (by (repeat' (first | exact Below.refl _ _ | assumption | (refine below_alloc ?_ _) | (refine Below.setCell ?_ ?_ _) | (refine Below.drew ?_) | (refine below_drewN ?_ _))) <;> (first | (simp; done) | (simp; omega) | omega)) hb
    obtain ⟨r0, r1, r2, g0, g1, g2⟩ := id R1
    clear hM X0 R0 hb
    go_wp2_with fail
    exact bodyPost_ret (v := .tuple #[.agg #[.bool false, .slice none 0 0, .int .i64 0], .int .i64 2]) (by simp [results, Tryz.results56, go_sem, r0, r1, r2, g0, g1, g2]) rfl ⟨none, 0, 0, rfl, (by show Num _ _ _ _ (limbs 0); rw [limbs_zero]; exact Num.nil _), by (repeat' (first | exact Below.refl _ _ | assumption | (refine below_alloc ?_ _) | (refine Below.setCell ?_ ?_ _) | (refine Below.drew ?_) | (refine below_drewN ?_ _))) <;> (first | (simp; done) | (simp; omega) | omega)⟩
set_option maxHeartbeats 1000000 in
theorem rAbs3_any (s : Bool) (e : Int) (R : Dy) (r : Int) (h1 : Num w a n c l) (hl : l.length ≤ 4000) (hO : normO ⟨false, valL l, e⟩ = (R, r)) :
    Calls Tryz.prog 57 #[.agg #[.bool s, .slice a n c, .int .i64 e]] w fun x w' => ∃ a' n' c', x = .returned (.tuple #[.agg #[.bool R.s, .slice a' n' c', .int .i64 R.e], .int .i64 r]) ∧ Num w' a' n' c' (limbs R.m) ∧ Below w.heap.size w w' := by
  have R0 := Boxed3.new (w.alloc (.cells #[.bool true, .slice a n c, .int .i64 e] 24)) false none 0 0 0 24 (g := w.heap.size + 1) (by simp)
  have hA := fun w' (hb : Below w.heap.size w w') => rNeg3_any true e R r (h1.below hb) hl hO
  clear hO h1 hl
  go_enter Tryz.func57, Tryz.ntmps57
  go_wp2_with fail
  refine (hA _ (by repeat' (first | exact Below.refl _ _ | refine below_alloc ?_ _))).mono ?_
  rintro x w1 ⟨a1, n1, c1, rfl, N1, hb⟩
  have R1 := R0.below hb
  have hB := below_step (w0 := w) (by (repeat' (first | exact Below.refl _ _ | assumption | (refine below_alloc ?_ _) | (refine Below.setCell ?_ ?_ _) | (refine Below.drew ?_) | (refine below_drewN ?_ _))) <;> (first | (simp; done) | (simp; omega) | omega)) hb
  obtain ⟨r0, r1, r2, g0, g1, g2⟩ := id R1
  clear hA R0
  go_wp2_with fail
  exact bodyPost_ret (v := .tuple #[.agg #[.bool R.s, .slice a1 n1 c1, .int .i64 R.e], .int .i64 r]) (by simp [results, Tryz.results57, go_sem, r0, r1, r2, g0, g1, g2]) rfl ⟨a1, n1, c1, rfl, Num.fill R1 N1 .., by (repeat' (first | exact Below.refl _ _ | assumption | (refine below_alloc ?_ _) | (refine Below.setCell ?_ ?_ _) | (refine Below.drew ?_) | (refine below_drewN ?_ _))) <;> (first | (simp; done) | (simp; omega) | omega)⟩
set_option maxHeartbeats 2000000 in
theorem rSign3_any (s : Bool) (e z : Int) (h1 : Num w a n c l) (hl : l.length ≤ 4000) (hm : mayE e) (hO : signO ⟨s, valL l, e⟩ = z) :
    Calls Tryz.prog 58 #[.agg #[.bool s, .slice a n c, .int .i64 e]] w fun x w' => x = .returned (.int .i64 z) ∧ Below w.heap.size w w' := by
  have X0 := (Boxed3.new w s a n c e 24 rfl)
  have hM := fun w' (hb : Below w.heap.size w w') => rMay3_any s e (h1.below hb) hl
  simp only [decide_eq_true hm] at hM
  have hN := fun w' (hb : Below w.heap.size w w') => rnorm_n (h1.below hb) hl
  have hz : z = if valL l = 0 then 0 else if s then -1 else 1 := by
    rw [← hO]
    unfold signO sideD
    rw [if_pos (by exact hm)]
    simp only [nrm_m_zero]
    by_cases h : valL l = 0
    · rw [if_pos h, if_pos h]
    · rw [if_neg h, if_neg h, nrm_s (by exact h)]
  obtain ⟨V, hV⟩ : ∃ V, valL l = V := ⟨_, rfl⟩
  rw [hV] at hz
  simp only [hV] at hN
  have HZ := Lib.hid hz
  clear hO hm h1 hz hV hl
  have hcase : ∀ n1 : Nat, n1 = (limbs V).length → (n1 = 0 ↔ V = 0) := by rintro n1 rfl; exact limbs_nil
  have HC := Lib.hid hcase
  clear hcase
  cases s
  all_goals go_enter Tryz.func58, Tryz.ntmps58
  all_goals go_wp2_with fail
  all_goals refine (hM _ (by repeat' (first | exact Below.refl _ _ | refine below_alloc ?_ _))).mono ?_
  all_goals rintro x w1 ⟨rfl, hb⟩
  all_goals have X1 := X0.below hb
  all_goals have hB1 := below_step (w0 := w) (by (repeat' (first | exact Below.refl _ _ | assumption | (refine below_alloc ?_ _) | (refine Below.setCell ?_ ?_ _) | (refine Below.drew ?_) | (refine below_drewN ?_ _))) <;> (first | (simp; done) | (simp; omega) | omega)) hb
  all_goals obtain ⟨x0, x1, x2, f0, f1, f2⟩ := id X1
  all_goals clear hM X0 hb
  all_goals go_wp2_with fail
  all_goals refine (hN _ hB1).mono ?_
  all_goals rintro x w2 ⟨a2, n2, c2, rfl, N2, hb⟩
  all_goals have X2 := X1.below hb
  all_goals have hB2 := below_step hB1 hb
  all_goals have HN := Lib.hid (HC.out n2 N2.1)
  all_goals clear hN X1 hb hB1 x0 x1 x2 f0 f1 f2 N2
  all_goals obtain ⟨x0, x1, x2, f0, f1, f2⟩ := id X2
  all_goals by_cases h0 : n2 = 0
  all_goals (first | (have hd : ((n2 : Int) == 0) = true := by simp [h0]) | (have hd : ((n2 : Int) == 0) = false := by simp [h0]))
  all_goals (first | (have hz : z = 0 := by rw [HZ.out, if_pos (HN.out.1 h0)]) | (have hz : z = -1 := by rw [HZ.out, if_neg (fun h => h0 (HN.out.2 h))]; rfl) | (have hz : z = 1 := by rw [HZ.out, if_neg (fun h => h0 (HN.out.2 h))]; rfl))
  all_goals have HZ2 := Lib.hid hz
  all_goals clear h0 hz
  all_goals go_wp2_with fail
  all_goals go_ret
  all_goals exact ⟨by rw [HZ2.out]; rfl, hB2⟩
set_option maxHeartbeats 2000000 in
theorem rShift3_any (s : Bool) (e i : Int) (R : Dy) (r : Int) (hi0 : -9223372036854775808 ≤ i) (hi1 : i ≤ 9223372036854775807) (h1 : Num w a n c l) (hl : l.length ≤ 4000) (hO : shiftO ⟨s, valL l, e⟩ i = (R, r)) :
    Calls Tryz.prog 50 #[.agg #[.bool s, .slice a n c, .int .i64 e], .int .i64 i] w fun x w' => ∃ a' n' c', x = .returned (.tuple #[.agg #[.bool R.s, .slice a' n' c', .int .i64 R.e], .int .i64 r]) ∧ Num w' a' n' c' (limbs R.m) ∧ Below w.heap.size w w' := by
  have X0 := (Boxed3.new w s a n c e 24 rfl).alloc (.cells #[.bool false, .slice none 0 0, .int .i64 0] 24)
  have R0 := Boxed3.new (w.alloc (.cells #[.bool s, .slice a n c, .int .i64 e] 24)) false none 0 0 0 24 (g := w.heap.size + 1) (by simp)
  have hM := fun w' (hb : Below w.heap.size w w') => rMay3_any s e (h1.below hb) hl
  unfold shiftO at hO
  by_cases hm : mayE e
  · rw [if_pos (by exact hm)] at hO
    simp only [decide_eq_true hm] at hM
    have hN := fun w' (hb : Below w.heap.size w w') => rNorm3_any s e (h1.below hb) hl (by have := hm.1; omega) (by have := hm.2; omega)
    have hb0 := nrm_e_may (s := s) h1.limbs hl hm
    have hb1 := nrm_len (s := s) (e := e) h1.limbs
    have hz := nrm_m_zero ⟨s, valL l, e⟩
    simp only at hO hz
    replace hO : (if (nrm ⟨s, valL l, e⟩).m = 0 then (zeroD, 0) else doneO ⟨(nrm ⟨s, valL l, e⟩).s, (nrm ⟨s, valL l, e⟩).m, (nrm ⟨s, valL l, e⟩).e + max (-1048576) (min 1048576 i)⟩) = (R, r) := by simpa only [hz] using hO
    have hzz : (nrm ⟨s, valL l, e⟩).m = 0 → nrm ⟨s, valL l, e⟩ = zeroD := fun h => nrm_zero (hz.1 h)
    obtain ⟨X, hX⟩ : ∃ X, nrm ⟨s, valL l, e⟩ = X := ⟨_, rfl⟩
    simp only [hX] at hN hb0 hb1 hO hzz
    obtain ⟨J, hJ⟩ : ∃ J, max (-1048576) (min 1048576 i) = J := ⟨_, rfl⟩
    have hJ0 : -1048576 ≤ J := by omega
    have hJ1 : J ≤ 1048576 := by omega
    rw [hJ] at hO
    have hD := fun w' a' n' c' (hn : Num w' a' n' c' (limbs X.m)) => rDone3_any X.s (X.e + J) hn (Nat.le_trans hb1 hl) (by omega) (by omega)
    simp only [valL_limbs] at hD
    clear hX hz hm h1 hb1 hl
    by_cases h0 : X.m = 0
    · rw [if_pos h0] at hO
      obtain rfl : X = zeroD := hzz h0
      obtain ⟨rfl, rfl⟩ : zeroD = R ∧ 0 = r := ⟨congrArg Prod.fst hO, congrArg Prod.snd hO⟩
      have e1 : zeroD.s = false := rfl
      have e2 : zeroD.m = 0 := rfl
      have e3 : zeroD.e = 0 := rfl
      simp only [e1, e2, e3] at hN
      clear hO hD h0 hzz hb0 e1 e2 e3
      go_enter Tryz.func50, Tryz.ntmps50
      go_wp2_with fail
      refine (hM _ (by repeat' (first | exact Below.refl _ _ | refine below_alloc ?_ _))).mono ?_
      rintro x w1 ⟨rfl, hb⟩
      have X1 := X0.below hb
      have R1 := R0.below hb
      have hB1 := below_step (w0 := w) (by (repeat' (first | exact Below.refl _ _ | assumption | (refine below_alloc ?_ _) | (refine Below.setCell ?_ ?_ _) | (refine Below.drew ?_) | (refine below_drewN ?_ _))) <;> (first | (simp; done) | (simp; omega) | omega)) hb
      obtain ⟨x0, x1, x2, f0, f1, f2⟩ := id X1
      clear hM X0 R0 hb
      go_wp2_with fail
      refine (hN _ hB1).mono ?_
      rintro x w2 ⟨a2, n2, c2, rfl, N2, hb⟩
      have X2 := X1.below hb
      have R2 := R1.below hb
      have hB2 := below_step hB1 hb
      have hn2 : n2 = 0 := by rw [N2.1]; exact limbs_nil.2 rfl
      subst hn2
      have HN2 := Lib.hid N2
      clear hN X1 R1 hb hB1 x0 x1 x2 f0 f1 f2 N2
      obtain ⟨x0, x1, x2, f0, f1, f2⟩ := id X2
      obtain ⟨r0, r1, r2, g0, g1, g2⟩ := id R2
      go_wp2_with fail
      exact bodyPost_ret (v := .tuple #[.agg #[.bool false, .slice a2 0 c2, .int .i64 0], .int .i64 0]) (by simp [results, Tryz.results50, go_sem, r0, r1, r2, g0, g1, g2, x0, x1, x2]) rfl ⟨a2, 0, c2, rfl, Num.fill (R2.other3 (k := w.heap.size) (by omega) _ _ _) (Num.fill X2 HN2.out ..) .., Below.fill3 (Below.fill3 hB2 (Nat.le_refl _) _ _ _) (by omega) _ _ _⟩
    · rw [if_neg h0] at hO
      simp only [hO] at hD
      have H0 := Lib.hid h0
      clear hO h0 hzz
      go_enter Tryz.func50, Tryz.ntmps50
      go_wp2_with fail
      refine (hM _ (by repeat' (first | exact Below.refl _ _ | refine below_alloc ?_ _))).mono ?_
      rintro x w1 ⟨rfl, hb⟩
      have X1 := X0.below hb
      have R1 := R0.below hb
      have hB1 := below_step (w0 := w) (by (repeat' (first | exact Below.refl _ _ | assumption | (refine below_alloc ?_ _) | (refine Below.setCell ?_ ?_ _) | (refine Below.drew ?_) | (refine below_drewN ?_ _))) <;> (first | (simp; done) | (simp; omega) | omega)) hb
      obtain ⟨x0, x1, x2, f0, f1, f2⟩ := id X1
      clear hM X0 R0 hb
      go_wp2_with fail
      refine (hN _ hB1).mono ?_
      rintro x w2 ⟨a2, n2, c2, rfl, N2, hb⟩
      have X2 := X1.below hb
      have R2 := R1.below hb
      have hB2 := below_step hB1 hb
      have hn2 : n2 ≠ 0 := by rw [N2.1]; exact fun h => H0.out (limbs_nil.1 h)
      have N3 := (Num.fill X2 N2 X.s a2 n2 c2 X.e).set (X2.fill X.s a2 n2 c2 X.e).c2 (by intro x h; cases h) (.int .i64 (X.e + J))
      have hB3 := ((Below.fill3 hB2 (Nat.le_refl _) (.bool X.s) (.slice a2 n2 c2) (.int .i64 X.e)).setCell (p := ⟨w.heap.size, 2, none⟩) (Nat.le_refl _) (.int .i64 (X.e + J)))
      have R3 := (R2.other3 (k := w.heap.size) (by omega) (.bool X.s) (.slice a2 n2 c2) (.int .i64 X.e)).other (k := w.heap.size) (by omega) 2 (.int .i64 (X.e + J))
      have hD1 := hD _ _ _ _ N3
      clear hN X1 R1 hb hB1 x0 x1 x2 f0 f1 f2 N2 hD
      obtain ⟨y0, y1, y2, _, _, _⟩ := X2.fill X.s a2 n2 c2 X.e
      have z2 : ((((w2.setCell ⟨w.heap.size, 0, none⟩ (.bool X.s)).setCell ⟨w.heap.size, 1, none⟩ (.slice a2 n2 c2)).setCell ⟨w.heap.size, 2, none⟩ (.int .i64 X.e)).setCell ⟨w.heap.size, 2, none⟩ (.int .i64 (X.e + J))).cell? ⟨w.heap.size, 2, none⟩ = some (.int .i64 (X.e + J)) := by simp [go_sem, y2]
      obtain ⟨x0, x1, x2, f0, f1, f2⟩ := id X2
      go_wp2_with fail
      refine hD1.mono ?_
      rintro x w3 ⟨a3, n3, c3, rfl, N4, hb⟩
      have R4 := R3.below hb
      have hB4 := below_step hB3 hb
      obtain ⟨r0, r1, r2, g0, g1, g2⟩ := id R4
      clear hD1 R3 hb hB3 x0 x1 x2 f0 f1 f2 X2 R2 hB2 N3 y0 y1 y2 z2
      go_wp2_with fail
      exact bodyPost_ret (v := .tuple #[.agg #[.bool R.s, .slice a3 n3 c3, .int .i64 R.e], .int .i64 r]) (by simp [results, Tryz.results50, go_sem, r0, r1, r2, g0, g1, g2]) rfl ⟨a3, n3, c3, rfl, Num.fill R4 N4 .., by (repeat' (first | exact Below.refl _ _ | assumption | (refine below_alloc ?_ _) | (refine Below.setCell ?_ ?_ _) | (refine Below.drew ?_) | (refine below_drewN ?_ _))) <;> (first | (simp; done) | (simp; omega) | omega)⟩
  · rw [if_neg (by exact hm)] at hO
    obtain ⟨rfl, rfl⟩ : zeroD = R ∧ 2 = r := ⟨congrArg Prod.fst hO, congrArg Prod.snd hO⟩
    simp only [decide_eq_false hm] at hM
    clear hO hm h1
    go_enter Tryz.func50, Tryz.ntmps50
    go_wp2_with fail
    refine (hM _ (by repeat' (first | exact Below.refl _ _ | refine below_alloc ?_ _))).mono ?_
    rintro x w1 ⟨rfl, hb⟩
    have R1 := R0.below hb
    have hB1 := below_step (w0 := w) (by (repeat' (first | exact Below.refl _ _ | assumption | (refine below_alloc ?_ _) | (refine Below.setCell ?_ ?_ _) | (refine Below.drew ?_) | (refine below_drewN ?_ _))) <;> (first | (simp; done) | (simp; omega) | omega)) hb
    obtain ⟨r0, r1, r2, g0, g1, g2⟩ := id R1
    clear hM X0 R0 hb
    go_wp2_with fail
    exact bodyPost_ret (v := .tuple #[.agg #[.bool false, .slice none 0 0, .int .i64 0], .int .i64 2]) (by simp [results, Tryz.results50, go_sem, r0, r1, r2, g0, g1, g2]) rfl ⟨none, 0, 0, rfl, (by show Num _ _ _ _ (limbs 0); rw [limbs_zero]; exact Num.nil _), by (repeat' (first | exact Below.refl _ _ | assumption | (refine below_alloc ?_ _) | (refine Below.setCell ?_ ?_ _) | (refine Below.drew ?_) | (refine below_drewN ?_ _))) <;> (first | (simp; done) | (simp; omega) | omega)⟩
end
end Go.Proofs.YtjlaadadbpffdaaGreatDoor
