/-
  dyad: Shift, Of, Cmp.
-/
import Derived.Test.YtjlaadadbpffdaaGreatDoorDyG
set_option linter.unusedSimpArgs false
set_option linter.unusedVariables false
namespace Go.Proofs.YtjlaadadbpffdaaGreatDoor
open Go.RowKit Go.Plumb

section
variable {w : World} {a b : Option Addr} {n c m d : Nat} {l k : List Nat}
set_option maxHeartbeats 2000000 in
theorem dShift_any (s : Bool) (e i : Int) (R : Dy) (r : Int) (hi0 : -9223372036854775808 ≤ i) (hi1 : i ≤ 9223372036854775807) (hT : Tab w) (h1 : Num w a n c l) (hl : l.length ≤ 4000) (hO : shiftO ⟨s, valL l, e⟩ i = (R, r)) :
    Calls Tryz.prog 49 #[.agg #[.bool s, .slice a n c, .int .i64 e], .int .i64 i] w fun x w' => ∃ a' n' c', x = .returned (.tuple #[.agg #[.bool R.s, .slice a' n' c', .int .i64 R.e], .int .i64 r]) ∧ Num w' a' n' c' (limbs R.m) ∧ Below w.heap.size w w' := by
  have X0 := (Boxed3.new w s a n c e 24 rfl).alloc (.cells #[.bool false, .slice none 0 0, .int .i64 0] 24)
  have R0 := Boxed3.new (w.alloc (.cells #[.bool s, .slice a n c, .int .i64 e] 24)) false none 0 0 0 24 (g := w.heap.size + 1) (by simp)
  unfold shiftO at hO
  by_cases hm : mayE e
  · rw [if_pos (by exact hm)] at hO
    have hb0 := nrm_e_may (s := s) h1.limbs hl hm
    have hb1 := nrm_len (s := s) (e := e) h1.limbs
    have hP := fun g w' (hb : Below w.heap.size w w') (hp) (hx) (hg) => dopen1 (w.heap.size) g w.heap.size s a n c l e w' (Nat.le_refl _) hb.size hg hp hx (h1.below hb) (hT.below hb) hl hm
    have hz := nrm_m_zero ⟨s, valL l, e⟩
    simp only at hO hz
    replace hO : (if (nrm ⟨s, valL l, e⟩).m = 0 then (zeroD, 0) else doneO ⟨(nrm ⟨s, valL l, e⟩).s, (nrm ⟨s, valL l, e⟩).m, (nrm ⟨s, valL l, e⟩).e + max (-1048576) (min 1048576 i)⟩) = (R, r) := by simpa only [hz] using hO
    obtain ⟨X, hX⟩ : ∃ X, nrm ⟨s, valL l, e⟩ = X := ⟨_, rfl⟩
    simp only [hX] at hP hb0 hb1 hO
    obtain ⟨xs, xm, xe⟩ := X
    simp only at hP hb0 hb1 hO
    obtain ⟨J, hJ⟩ : ∃ J, max (-1048576) (min 1048576 i) = J := ⟨_, rfl⟩
    have hJ0 : -1048576 ≤ J := by omega
    have hJ1 : J ≤ 1048576 := by omega
    rw [hJ] at hO
    have hD := fun w' a' n' c' (hb : Below w.heap.size w w') (hn : Num w' a' n' c' (limbs xm)) => ddone_any xs (xe + J) (hT.below hb) hn (Nat.le_trans hb1 hl) (by omega) (by omega)
    simp only [valL_limbs] at hD
    clear hX hz hT hm h1 hb1 hl
    by_cases h0 : xm = 0
    · rw [if_pos h0] at hO
      obtain ⟨rfl, rfl⟩ : zeroD = R ∧ 0 = r := ⟨congrArg Prod.fst hO, congrArg Prod.snd hO⟩
      subst h0
      rw [limbs_zero] at hP hD
      clear hO hD
      go_enter Tryz.func49, Tryz.ntmps49
      go_wp2_with fail
      refine (hP _ _ (by repeat' (first | exact Below.refl _ _ | refine below_alloc ?_ _)) (by simp [go_sem]) (X0.alloc _) (by omega)).mono ?_
      rintro x w1 ⟨a1, n1, c1, rfl, X1, h2, hB1, A1⟩
      have R1 := (R0.alloc _).apart A1 (by omega) (by omega)
      have hB2 : Below w.heap.size w w1 := Below.trans (by repeat' (first | exact Below.refl _ _ | refine below_alloc ?_ _)) hB1
      obtain rfl : n1 = 0 := h2.1
      clear hP X0 R0 h2 A1 hB1
      obtain ⟨x0, x1, x2, f0, f1, f2⟩ := id X1
      obtain ⟨r0, r1, r2, g0, g1, g2⟩ := id R1
      go_wp2_with fail
      exact bodyPost_ret (v := .tuple #[.agg #[.bool false, .slice none 0 0, .int .i64 0], .int .i64 0]) (by simp [results, Tryz.results49, go_sem, r0, r1, r2, g0, g1, g2]) rfl ⟨none, 0, 0, rfl, (by show Num _ _ _ _ (limbs 0); rw [limbs_zero]; exact Num.nil _), by (repeat' (first | exact Below.refl _ _ | assumption | (refine below_alloc ?_ _) | (refine Below.setCell ?_ ?_ _) | (refine Below.drew ?_) | (refine below_drewN ?_ _))) <;> (first | (simp; done) | (simp; omega) | omega)⟩
    · rw [if_neg h0] at hO
      simp only [hO] at hD
      have H0 := Lib.hid h0
      clear hO h0
      go_enter Tryz.func49, Tryz.ntmps49
      go_wp2_with fail
      refine (hP _ _ (by repeat' (first | exact Below.refl _ _ | refine below_alloc ?_ _)) (by simp [go_sem]) (X0.alloc _) (by omega)).mono ?_
      rintro x w1 ⟨a1, n1, c1, rfl, X1, h2, hB1, A1⟩
      have R1 := (R0.alloc _).apart A1 (by omega) (by omega)
      have hB2 : Below w.heap.size w w1 := Below.trans (by repeat' (first | exact Below.refl _ _ | refine below_alloc ?_ _)) hB1
      have hn1 : n1 ≠ 0 := by rw [h2.1]; exact fun h => H0.out (limbs_nil.1 h)
      have hn2 := h2.set X1.c2 (by intro x h; cases h) (.int .i64 (xe + J))
      have hB3 := hB2.setCell (p := ⟨w.heap.size, 2, none⟩) (Nat.le_refl _) (.int .i64 (xe + J))
      have hD1 := hD _ _ _ _ hB3 hn2
      have R2 := R1.other (k := w.heap.size) (by omega) 2 (.int .i64 (xe + J))
      clear hP X0 R0 h2 A1 hB1 hD hn2
      obtain ⟨x0, x1, x2, f0, f1, f2⟩ := id X1
      go_wp2_with fail
      refine hD1.mono ?_
      rintro x w2 ⟨a2, n2, c2, rfl, N2, hb⟩
      have R3 := R2.below hb
      have hB4 := below_step hB3 hb
      obtain ⟨r0, r1, r2, g0, g1, g2⟩ := id R3
      clear hD1 R2 hb X1 R1 hB3 hB2 x0 x1 x2 f0 f1 f2
      go_wp2_with fail
      exact bodyPost_ret (v := .tuple #[.agg #[.bool R.s, .slice a2 n2 c2, .int .i64 R.e], .int .i64 r]) (by simp [results, Tryz.results49, go_sem, r0, r1, r2, g0, g1, g2]) rfl ⟨a2, n2, c2, rfl, Num.fill R3 N2 .., by (repeat' (first | exact Below.refl _ _ | assumption | (refine below_alloc ?_ _) | (refine Below.setCell ?_ ?_ _) | (refine Below.drew ?_) | (refine below_drewN ?_ _))) <;> (first | (simp; done) | (simp; omega) | omega)⟩
  · rw [if_neg (by exact hm)] at hO
    obtain ⟨rfl, rfl⟩ : zeroD = R ∧ 2 = r := ⟨congrArg Prod.fst hO, congrArg Prod.snd hO⟩
    have hP := fun g w' (hb : Below w.heap.size w w') (hp) (hx) (hg) => dopen1_bad g w.heap.size 1 (by omega) (by omega) s a n c l e w' hg hp hx (h1.below hb) hl hm
    clear hO hT hm h1 hl
    go_enter Tryz.func49, Tryz.ntmps49
    go_wp2_with fail
    refine (hP _ _ (by repeat' (first | exact Below.refl _ _ | refine below_alloc ?_ _)) (by simp [go_sem]) (X0.alloc _) (by omega)).mono ?_
    rintro x w1 ⟨rfl, hb1⟩
    have R1 := (R0.alloc _).below hb1
    have hB1 := below_step (w0 := w) (by (repeat' (first | exact Below.refl _ _ | assumption | (refine below_alloc ?_ _) | (refine Below.setCell ?_ ?_ _) | (refine Below.drew ?_) | (refine below_drewN ?_ _))) <;> (first | (simp; done) | (simp; omega) | omega)) hb1
    obtain ⟨r0, r1, r2, g0, g1, g2⟩ := id R1
    clear hP X0 R0
    go_wp2_with fail
    exact bodyPost_ret (v := .tuple #[.agg #[.bool false, .slice none 0 0, .int .i64 0], .int .i64 2]) (by simp [results, Tryz.results49, go_sem, r0, r1, r2, g0, g1, g2]) rfl ⟨none, 0, 0, rfl, (by show Num _ _ _ _ (limbs 0); rw [limbs_zero]; exact Num.nil _), by (repeat' (first | exact Below.refl _ _ | assumption | (refine below_alloc ?_ _) | (refine Below.setCell ?_ ?_ _) | (refine Below.drew ?_) | (refine below_drewN ?_ _))) <;> (first | (simp; done) | (simp; omega) | omega)⟩

set_option maxHeartbeats 2000000 in
theorem dOf_any (x : Nat) (hx : x < 18446744073709551616) (hc : classI (x : Int) ≤ 3) (hT : Tab w) :
    Calls Tryz.prog 25 #[.float .f64 x] w fun z w' => ∃ a' n' c', z = .returned (.tuple #[.agg #[.bool (nrm (dyW x)).s, .slice a' n' c', .int .i64 (nrm (dyW x)).e], .int .i64 0]) ∧ Num w' a' n' c' (limbs (nrm (dyW x)).m) ∧ Below w.heap.size w w' := by
  have R0 := Boxed3.new w false none 0 0 0 24 (g := w.heap.size) rfl
  have hOf := fun w => of_any x w hx
  have ho : oneI (x : Int) = x := by unfold oneI; rw [if_neg (by omega)]
  rw [ho] at hOf
  have hPa := fun w => parts_any (x : Int) w (by omega) (by omega)
  have hpe : pErr (x : Int) = 0 := by unfold pErr; rw [if_pos hc]
  have hml := dyW_m_lt x
  have hel := dyW_e x
  have h1 : (dyW x).s = pNeg (x : Int) := rfl
  have h2 : ((dyW x).m : Int) = pMan (x : Int) := by have := pMan_ge (x : Int); show ((pMan (x : Int)).toNat : Int) = _; omega
  have h3 : (dyW x).e = pExp (x : Int) := rfl
  simp only [hpe, ← h1, ← h2, ← h3] at hPa
  obtain ⟨⟨xs, xm, xe⟩, hX⟩ : ∃ X, dyW x = X := ⟨_, rfl⟩
  simp only [hX] at hPa hml hel ⊢
  clear h1 h2 h3 hpe ho
  have hN := fun w => nof_any xm w (by omega)
  have hlen : (limbs xm).length ≤ 4000 := by
    by_cases h : xm = 0
    · rw [h, limbs_zero]; simp
    · rw [limbs_one h (by omega)]; simp
  have hD := fun w' a' n' c' (hb : Below w.heap.size w w') (hn : Num w' a' n' c' (limbs xm)) => dnorm_any xs xe (hT.below hb) hn hlen (by omega) (by omega)
  simp only [valL_limbs] at hD
  obtain ⟨Y, hY⟩ : ∃ Y, nrm ⟨xs, xm, xe⟩ = Y := ⟨_, rfl⟩
  simp only [hY] at hD ⊢
  have hxm : (xm : Int) < 18446744073709551616 := by omega
  clear hX hY hT hlen hml hc hx
  go_enter Tryz.func25, Tryz.ntmps25
  go_wp2_with fail
  refine (hOf _).mono ?_
  rintro z w' ⟨rfl, rfl⟩
  go_wp2_with fail
  refine (hPa _).mono ?_
  rintro z w1 ⟨rfl, hb⟩
  have R1 := R0.below hb
  have hB1 := below_step (w0 := w) (by (repeat' (first | exact Below.refl _ _ | assumption | (refine below_alloc ?_ _) | (refine Below.setCell ?_ ?_ _) | (refine Below.drew ?_) | (refine below_drewN ?_ _))) <;> (first | (simp; done) | (simp; omega) | omega)) hb
  obtain ⟨r0, r1, r2, g0, g1, g2⟩ := id R1
  clear hOf hPa hb R0
  go_wp2_with fail
  obtain ⟨W0, hW0⟩ : ∃ W0, w1.alloc (.cells #[.bool xs, .int .u64 (xm : Int), .int .i64 xe] 97) = W0 := ⟨_, rfl⟩
  have hB2 : Below w.heap.size w W0 := by rw [← hW0]; (repeat' (first | exact Below.refl _ _ | assumption | (refine below_alloc ?_ _) | (refine Below.setCell ?_ ?_ _) | (refine Below.drew ?_) | (refine below_drewN ?_ _))) <;> (first | (simp; done) | (simp; omega) | omega)
  have R2 : Boxed3 W0 w.heap.size false none 0 0 0 := by rw [← hW0]; exact R1.alloc _
  have p0 : W0.cell? ⟨w1.heap.size, 0, none⟩ = some (.bool xs) := by rw [← hW0]; simp [go_sem]
  have p1 : W0.cell? ⟨w1.heap.size, 1, none⟩ = some (.int .u64 (xm : Int)) := by rw [← hW0]; simp [go_sem]
  have p2 : W0.cell? ⟨w1.heap.size, 2, none⟩ = some (.int .i64 xe) := by rw [← hW0]; simp [go_sem]
  have hlt : w.heap.size < w1.heap.size := R1.lt
  rw [hW0]
  clear hW0 r0 r1 r2 g0 g1 g2 R1 hB1
  go_region_held3 (fun wx => Below w.heap.size w wx ∧ wx.cell? ⟨w1.heap.size, 0, none⟩ = some (.bool xs) ∧ wx.cell? ⟨w1.heap.size, 1, none⟩ = some (.int .u64 (xm : Int)) ∧ wx.cell? ⟨w1.heap.size, 2, none⟩ = some (.int .i64 xe))
    (((repeat' (refine And.intro ?_ ?_)) <;> first | assumption | exact Below.drew (by assumption) | ((repeat' (first | exact Below.refl _ _ | assumption | (refine below_alloc ?_ _) | (refine Below.setCell ?_ ?_ _) | (refine Below.drew ?_) | (refine below_drewN ?_ _))) <;> (first | (simp; done) | (simp; omega) | omega); done) | ((repeat (first | assumption | refine (World.cell?_setCell_far _ _ _ _ (by first | (simp; done) | (simp; omega))).trans ?_)); done)))
    ((first | (go_at_call 95; (with_reducible refine (hN _).mono ?_); rintro e w2 ⟨a1, c1, rfl, N1, hb⟩; have M1 : Num w2 a1 (limbs xm).length c1 (limbs xm) := ⟨rfl, N1⟩; have R3 := (R2.drew).below hb; have hB3 := below_step (w0 := w) (Below.drew hB2) hb; have q0 := (bcell hb).1 w1.heap.size 0 (cell_lt p0); have q1 := (bcell hb).1 w1.heap.size 1 (cell_lt p1); have q2 := (bcell hb).1 w1.heap.size 2 (cell_lt p2); replace p0 := q0.trans p0; replace p1 := q1.trans p1; replace p2 := q2.trans p2; clear q0 q1 q2 hb) | (go_at_call 94; (with_reducible refine (hD _ _ _ _ (by assumption) M1).mono ?_); rintro e w3 ⟨a2, n2, c2, rfl, N2, hb⟩; have R4 := R3.below hb; have hB4 := below_step (w0 := w) hB3 hb; have q0 := (bcell hb).1 w1.heap.size 0 (cell_lt p0); have q1 := (bcell hb).1 w1.heap.size 1 (cell_lt p1); have q2 := (bcell hb).1 w1.heap.size 2 (cell_lt p2); replace p0 := q0.trans p0; replace p1 := q1.trans p1; replace p2 := q2.trans p2; obtain ⟨r0, r1, r2, g0, g1, g2⟩ := id R4; clear q0 q1 q2 hb)))
  go_wp2_with fail
  exact bodyPost_ret (v := .tuple #[.agg #[.bool Y.s, .slice a2 n2 c2, .int .i64 Y.e], .int .i64 0]) (by simp [results, Tryz.results25, go_sem, r0, r1, r2, g0, g1, g2]) rfl ⟨a2, n2, c2, rfl, Num.fill R4 N2 .., by (repeat' (first | exact Below.refl _ _ | assumption | (refine below_alloc ?_ _) | (refine Below.setCell ?_ ?_ _) | (refine Below.drew ?_) | (refine below_drewN ?_ _))) <;> (first | (simp; done) | (simp; omega) | omega)⟩
end
end Go.Proofs.YtjlaadadbpffdaaGreatDoor
