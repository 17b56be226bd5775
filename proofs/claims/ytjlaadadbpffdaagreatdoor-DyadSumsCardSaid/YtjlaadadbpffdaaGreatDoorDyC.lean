/-
  dyad: Norm, side, Sign, Half, Float, Mul.
-/
import Derived.Test.YtjlaadadbpffdaaGreatDoorDyB
import Derived.Test.YtjlaadadbpffdaaGreatDoorSoftM
import Derived.Test.YtjlaadadbpffdaaGreatDoorBnF
set_option linter.unusedSimpArgs false
set_option linter.unusedVariables false
namespace Go.Plumb
open Go.RowKit
theorem Boxed3.later {w w1 w' : World} {b : Nat} {s : Bool} {a : Option Addr} {n c : Nat} {e : Int} (h : Boxed3 w b s a n c e) (h1 : Below w.heap.size w w1) (hb : Below w1.heap.size w1 w') : Boxed3 w' b s a n c e := (h.below h1).below hb
theorem nrm_e_bound {s : Bool} {l : List Nat} {e : Int} (h : Limbs l) (hl : l.length ≤ 4000) (h0 : -1000000000 ≤ e) (h1 : e ≤ 1000000000) : -1000000000 ≤ (nrm ⟨s, valL l, e⟩).e ∧ (nrm ⟨s, valL l, e⟩).e ≤ 1000256000 := by
  by_cases h2 : valL l = 0
  · rw [nrm_zero h2]; show (-1000000000 : Int) ≤ 0 ∧ (0 : Int) ≤ 1000256000; omega
  · have := zerosN_len h hl
    rw [nrm_e h2]
    show -1000000000 ≤ e + (zerosN (valL l) : Int) ∧ e + (zerosN (valL l) : Int) ≤ 1000256000
    omega
theorem nrm_e_may {s : Bool} {l : List Nat} {e : Int} (h : Limbs l) (hl : l.length ≤ 4000) (hm : mayE e) : -262144 ≤ (nrm ⟨s, valL l, e⟩).e ∧ (nrm ⟨s, valL l, e⟩).e ≤ 600000 := by
  obtain ⟨h0, h1⟩ := hm
  by_cases h2 : valL l = 0
  · rw [nrm_zero h2]; show (-262144 : Int) ≤ 0 ∧ (0 : Int) ≤ 600000; omega
  · have := zerosN_len h hl
    rw [nrm_e h2]
    show -262144 ≤ e + (zerosN (valL l) : Int) ∧ e + (zerosN (valL l) : Int) ≤ 600000
    omega
theorem nrm_len {s : Bool} {l : List Nat} {e : Int} (h : Limbs l) : (limbs (nrm ⟨s, valL l, e⟩).m).length ≤ l.length := by rw [nrm_m]; exact len_odd h
theorem limbs_one {x : Nat} (h0 : x ≠ 0) (h : x < 18446744073709551616) : limbs x = [x] := by
  rw [limbs_pos h0, Nat.mod_eq_of_lt h, Nat.div_eq_of_lt h, limbs_zero]
theorem doneO_nrm (x : Dy) : doneO (nrm x) = doneO x := by unfold doneO; rw [nrm_nrm]
end Go.Plumb
namespace Go.Proofs.YtjlaadadbpffdaaGreatDoor
open Go.RowKit Go.Plumb

section
variable {w : World} {a : Option Addr} {n c : Nat} {l : List Nat}
set_option maxHeartbeats 1000000 in
theorem dNorm_any (s : Bool) (e : Int) (hT : Tab w) (h1 : Num w a n c l) (hl : l.length ≤ 4000) :
    Calls Tryz.prog 47 #[.agg #[.bool s, .slice a n c, .int .i64 e]] w fun x w' => ∃ a' n' c', x = .returned (.tuple #[.agg #[.bool (normO ⟨s, valL l, e⟩).1.s, .slice a' n' c', .int .i64 (normO ⟨s, valL l, e⟩).1.e], .int .i64 (normO ⟨s, valL l, e⟩).2]) ∧ Num w' a' n' c' (limbs (normO ⟨s, valL l, e⟩).1.m) ∧ Below w.heap.size w w' := by
  have X0 := (Boxed3.new w s a n c e 24 rfl).alloc (.cells #[.bool false, .slice none 0 0, .int .i64 0] 24)
  have R0 := Boxed3.new (w.alloc (.cells #[.bool s, .slice a n c, .int .i64 e] 24)) false none 0 0 0 24 (g := w.heap.size + 1) (by simp)
  by_cases hm : mayE e
  · have hb0 := nrm_e_may (s := s) h1.limbs hl hm
    have hb1 := nrm_len (s := s) (e := e) h1.limbs
    have hO := fun g w' (hb : Below w.heap.size w w') (hp) (hx) (hg) => dopen1 (w.heap.size) g w.heap.size s a n c l e w' (Nat.le_refl _) hb.size hg hp hx (h1.below hb) (hT.below hb) hl hm
    have hD := fun w' a' n' c' (hb : Below w.heap.size w w') (hn : Num w' a' n' c' (limbs (nrm ⟨s, valL l, e⟩).m)) => ddone_any (nrm ⟨s, valL l, e⟩).s (nrm ⟨s, valL l, e⟩).e (hT.below hb) hn (Nat.le_trans hb1 hl) (by omega) (by omega)
    have hR : normO ⟨s, valL l, e⟩ = doneO (nrm ⟨s, valL l, e⟩) := by unfold normO; rw [if_pos (by exact hm), doneO_nrm]
    rw [hR]
    simp only [valL_limbs] at hD
    obtain ⟨X, hX⟩ : ∃ X, nrm ⟨s, valL l, e⟩ = X := ⟨_, rfl⟩
    simp only [hX] at hO hD ⊢
    obtain ⟨xs, xm, xe⟩ := X
    simp only at hO hD ⊢
    obtain ⟨⟨⟨ys, ym, ye⟩, y⟩, hY⟩ : ∃ Y, doneO ⟨xs, xm, xe⟩ = Y := ⟨_, rfl⟩
    simp only [hY] at hD ⊢
    clear hX hY hR hb0 hb1 h1 hT hm
    go_enter Tryz.func47, Tryz.ntmps47
    go_wp2_with fail
    refine (hO _ _ (by repeat' (first | exact Below.refl _ _ | refine below_alloc ?_ _)) (by simp [go_sem]) (X0.alloc _) (by omega)).mono ?_
    rintro x w1 ⟨a1, n1, c1, rfl, X1, h2, hB1, A1⟩
    have R1 := (R0.alloc _).apart A1 (by omega) (by omega)
    have hB2 : Below w.heap.size w w1 := Below.trans (by repeat' (first | exact Below.refl _ _ | refine below_alloc ?_ _)) hB1
    have hD1 := hD _ _ _ _ hB2 h2
    clear hD hO X0 R0 h2 A1 hB1
    obtain ⟨x0, x1, x2, f0, f1, f2⟩ := id X1
    go_wp2_with fail
    refine hD1.mono ?_
    rintro x w2 ⟨a2, n2, c2, rfl, h3, hb2⟩
    have R2 := R1.below hb2
    have hB3 := below_step hB2 hb2
    obtain ⟨r0, r1, r2, g0, g1, g2⟩ := id R2
    clear hD1 X1 R1 hb2 x0 x1 x2 f0 f1 f2
    go_wp2_with fail
    refine bodyPost_ret (v := .tuple #[.agg #[.bool ys, .slice a2 n2 c2, .int .i64 ye], .int .i64 y]) (by simp [results, Tryz.results47, go_sem, r0, r1, r2, g0, g1, g2]) rfl ⟨a2, n2, c2, rfl, Num.fill R2 h3 .., by (repeat' (first | exact Below.refl _ _ | assumption | (refine below_alloc ?_ _) | (refine Below.setCell ?_ ?_ _) | (refine Below.drew ?_) | (refine below_drewN ?_ _))) <;> (first | (simp; done) | (simp; omega) | omega)⟩
  · have hO := fun g w' (hb : Below w.heap.size w w') (hp) (hx) (hg) => dopen1_bad g w.heap.size 1 (by omega) (by omega) s a n c l e w' hg hp hx (h1.below hb) hl hm
    have hR : normO ⟨s, valL l, e⟩ = (zeroD, 2) := by unfold normO; rw [if_neg (by exact hm)]
    rw [hR]
    clear hR h1 hT hm
    go_enter Tryz.func47, Tryz.ntmps47
    go_wp2_with fail
    refine (hO _ _ (by repeat' (first | exact Below.refl _ _ | refine below_alloc ?_ _)) (by simp [go_sem]) (X0.alloc _) (by omega)).mono ?_
    rintro x w1 ⟨rfl, hb1⟩
    have R1 := (R0.alloc _).below hb1
    have hB2 := below_step (w0 := w) (by (repeat' (first | exact Below.refl _ _ | assumption | (refine below_alloc ?_ _) | (refine Below.setCell ?_ ?_ _) | (refine Below.drew ?_) | (refine below_drewN ?_ _))) <;> (first | (simp; done) | (simp; omega) | omega)) hb1
    obtain ⟨r0, r1, r2, g0, g1, g2⟩ := id R1
    clear hO X0 R0
    go_wp2_with fail
    refine bodyPost_ret (v := .tuple #[.agg #[.bool false, .slice none 0 0, .int .i64 0], .int .i64 2]) (by simp [results, Tryz.results47, go_sem, r0, r1, r2, g0, g1, g2]) rfl ⟨none, 0, 0, rfl, (by show Num _ _ _ _ (limbs 0); rw [limbs_zero]; exact Num.nil _), by (repeat' (first | exact Below.refl _ _ | assumption | (refine below_alloc ?_ _) | (refine Below.setCell ?_ ?_ _) | (refine Below.drew ?_) | (refine below_drewN ?_ _))) <;> (first | (simp; done) | (simp; omega) | omega)⟩

theorem side_any (s : Bool) (e : Int) (hn : n ≤ 9223372036854775807) :
    Calls Tryz.prog 116 #[.agg #[.bool s, .slice a n c, .int .i64 e]] w fun x w' => x = .returned (.int .i64 (if n = 0 then 0 else if s then -1 else 1)) ∧ Below w.heap.size w w' := by
  by_cases h0 : n = 0
  · subst h0
    rw [if_pos rfl]
    go_enter Tryz.func116, Tryz.ntmps116
    go_wp2_with fail
    go_ret
    exact ⟨rfl, by (repeat' (first | exact Below.refl _ _ | assumption | (refine below_alloc ?_ _) | (refine Below.setCell ?_ ?_ _) | (refine Below.drew ?_) | (refine below_drewN ?_ _))) <;> (first | (simp; done) | (simp; omega) | omega)⟩
  · rw [if_neg h0]
    cases s
    all_goals go_enter Tryz.func116, Tryz.ntmps116
    all_goals go_wp2_with fail
    all_goals go_ret
    all_goals exact ⟨rfl, by (repeat' (first | exact Below.refl _ _ | assumption | (refine below_alloc ?_ _) | (refine Below.setCell ?_ ?_ _) | (refine Below.drew ?_) | (refine below_drewN ?_ _))) <;> (first | (simp; done) | (simp; omega) | omega)⟩

set_option maxHeartbeats 1000000 in
theorem dSign_any (s : Bool) (e : Int) (hT : Tab w) (h1 : Num w a n c l) (hl : l.length ≤ 4000) :
    Calls Tryz.prog 48 #[.agg #[.bool s, .slice a n c, .int .i64 e]] w fun x w' => x = .returned (.int .i64 (signO ⟨s, valL l, e⟩)) ∧ Below w.heap.size w w' := by
  have X0 := (Boxed3.new w s a n c e 24 rfl)
  by_cases hm : mayE e
  · have hO := fun g w' (hb : Below w.heap.size w w') (hp) (hx) (hg) => dopen1 (w.heap.size) g w.heap.size s a n c l e w' (Nat.le_refl _) hb.size hg hp hx (h1.below hb) (hT.below hb) hl hm
    have hb1 := nrm_len (s := s) (e := e) h1.limbs
    have hR : signO ⟨s, valL l, e⟩ = sideD (nrm ⟨s, valL l, e⟩) := by unfold signO; rw [if_pos (by exact hm)]
    rw [hR]
    obtain ⟨X, hX⟩ : ∃ X, nrm ⟨s, valL l, e⟩ = X := ⟨_, rfl⟩
    simp only [hX] at hO hb1 ⊢
    obtain ⟨xs, xm, xe⟩ := X
    simp only at hO hb1 ⊢
    have hS : ∀ k, k = (limbs xm).length → sideD ⟨xs, xm, xe⟩ = (if k = 0 then 0 else if xs then -1 else 1) := by
      rintro k rfl
      unfold sideD
      simp only [limbs_nil]
    obtain ⟨Y, hY⟩ : ∃ Y, sideD ⟨xs, xm, xe⟩ = Y := ⟨_, rfl⟩
    simp only [hY] at hS ⊢
    have HS := Lib.hid hS
    clear hX hR hT hm h1 hS hY
    go_enter Tryz.func48, Tryz.ntmps48
    go_wp2_with fail
    refine (hO _ _ (by repeat' (first | exact Below.refl _ _ | refine below_alloc ?_ _)) (by simp [go_sem]) (X0.alloc _) (by omega)).mono ?_
    rintro x w1 ⟨a1, n1, c1, rfl, X1, h2, hB1, A1⟩
    have hB2 : Below w.heap.size w w1 := Below.trans (by repeat' (first | exact Below.refl _ _ | refine below_alloc ?_ _)) hB1
    have hn1 := Lib.hid h2.1
    clear hO X0 h2 A1 hB1
    obtain ⟨x0, x1, x2, f0, f1, f2⟩ := id X1
    go_wp2_with fail
    refine (side_any xs xe (by have := hn1.out; omega)).mono ?_
    rw [← HS.out _ hn1.out]
    rintro x w2 ⟨rfl, hb2⟩
    go_wp2_with fail
    go_ret
    exact ⟨rfl, below_step hB2 hb2⟩
  · have hO := fun g w' (hb : Below w.heap.size w w') (hp) (hx) (hg) => dopen1_bad g w.heap.size 1 (by omega) (by omega) s a n c l e w' hg hp hx (h1.below hb) hl hm
    have hR : signO ⟨s, valL l, e⟩ = 0 := by unfold signO; rw [if_neg (by exact hm)]
    rw [hR]
    clear hR h1 hT hm
    go_enter Tryz.func48, Tryz.ntmps48
    go_wp2_with fail
    refine (hO _ _ (by repeat' (first | exact Below.refl _ _ | refine below_alloc ?_ _)) (by simp [go_sem]) (X0.alloc _) (by omega)).mono ?_
    rintro x w1 ⟨rfl, hb1⟩
    clear hO
    go_wp2_with fail
    go_ret
    exact ⟨rfl, below_step (by (repeat' (first | exact Below.refl _ _ | assumption | (refine below_alloc ?_ _) | (refine Below.setCell ?_ ?_ _) | (refine Below.drew ?_) | (refine below_drewN ?_ _))) <;> (first | (simp; done) | (simp; omega) | omega)) hb1⟩

set_option maxHeartbeats 1000000 in
theorem dFloat_any (s : Bool) (e : Int) (hT : Tab w) (h1 : Num w a n c l) (hl : l.length ≤ 4000) (hm : mayE e) :
    Calls Tryz.prog 30 #[.agg #[.bool s, .slice a n c, .int .i64 e]] w fun x w' => x = .returned (.tuple #[.float .f64 (rndD (nrm ⟨s, valL l, e⟩)), .int .i64 0]) ∧ Below w.heap.size w w' := by
  have X0 := (Boxed3.new w s a n c e 24 rfl)
  have hO := fun g w' (hb : Below w.heap.size w w') (hp) (hx) (hg) => dopen1 (w.heap.size) g w.heap.size s a n c l e w' (Nat.le_refl _) hb.size hg hp hx (h1.below hb) (hT.below hb) hl hm
  have hb0 := nrm_e_may (s := s) h1.limbs hl hm
  have hb1 := Nat.le_trans (nrm_len (s := s) (e := e) h1.limbs) hl
  obtain ⟨X, hX⟩ : ∃ X, nrm ⟨s, valL l, e⟩ = X := ⟨_, rfl⟩
  simp only [hX] at hO hb0 hb1 ⊢
  obtain ⟨xs, xm, xe⟩ := X
  simp only at hO hb0 hb1 ⊢
  clear hX hT hm h1
  have hlen : lenN xm ≤ 256000 := by
    apply lenN_le
    have h2 := lt_pow_length xm
    obtain ⟨k, hk⟩ : ∃ k, k = 4000 := ⟨_, rfl⟩
    rw [← hk] at hb1
    have h3 : 18446744073709551616 ^ (limbs xm).length ≤ 18446744073709551616 ^ k := Nat.pow_le_pow_right (by decide) hb1
    rw [powB64 k] at h3
    have h4 : 64 * k = 256000 := by omega
    rw [h4] at h3
    exact Nat.lt_of_lt_of_le h2 h3
  obtain ⟨N, hN⟩ : ∃ N, lenN xm = N := ⟨_, rfl⟩
  obtain ⟨D, hD⟩ : ∃ D, N - 64 = D := ⟨_, rfl⟩
  have hD0 : max 0 ((N : Int) - 64) = (D : Int) := by omega
  obtain ⟨M, hM⟩ : ∃ M, xm / 2 ^ D = M := ⟨_, rfl⟩
  have hM1 : M < 18446744073709551616 := by
    rw [← hM]
    have := div_len xm D 64 (by omega)
    simpa using this
  have hcut := roundW_cut xs xm xe D (by
    by_cases h : D = 0
    · exact .inr h
    · left
      have hlN : lenN xm = D + 63 + 1 := by omega
      have := le_div_len xm D 63 hlN
      simp only [Nat.reducePow] at this
      omega)
  have hbad : roundBad (M : Int) (xe + D) (decide (xm % 2 ^ D ≠ 0)) = false := by
    unfold roundBad
    by_cases h : D = 0
    · rw [h, Nat.pow_zero, Nat.mod_one]; rfl
    · have hlN : lenN xm = D + 63 + 1 := by omega
      have := le_div_len xm D 63 hlN
      rw [hM] at this
      simp only [Nat.reducePow] at this
      have : decide ((M : Int) < 9007199254740992) = false := decide_eq_false (by omega)
      rw [this, Bool.and_false, Bool.false_and]
  rw [hM] at hcut
  obtain ⟨L, hL⟩ : ∃ L, decide (xm % 2 ^ D ≠ 0) = L := ⟨_, rfl⟩
  rw [hL] at hcut hbad
  have hfin : (rndD ⟨xs, xm, xe⟩ : Nat) = (roundW xs (M : Int) (xe + D) L).toNat := by rw [hcut]; rfl
  rw [hfin]
  obtain ⟨W, hW⟩ : ∃ W, roundW xs (M : Int) (xe + D) L = W := ⟨_, rfl⟩
  have hRnd := fun w => round_any xs (M : Int) (xe + D) L w (by omega) (by omega) hbad
  rw [hW] at hRnd ⊢
  have HN := Lib.hid hN
  have HM := Lib.hid hM
  have HL := Lib.hid hL
  have hDle : (D : Int) ≤ 256000 := by omega
  have hD1 : (0 : Int) ≤ D := by omega
  have hN1 : (0 : Int) ≤ N := by omega
  have hN2 : (N : Int) ≤ 256000 := by omega
  have hM2 := hM1
  clear hfin hcut hbad hW hL hM hN hD hlen hM1
  go_enter Tryz.func30, Tryz.ntmps30
  go_wp2_with fail
  refine (hO _ _ (by repeat' (first | exact Below.refl _ _ | refine below_alloc ?_ _)) (by simp [go_sem]) (X0.alloc _) (by omega)).mono ?_
  rintro x w1 ⟨a1, n1, c1, rfl, X1, h2, hB1, A1⟩
  have hB2 : Below w.heap.size w w1 := Below.trans (by repeat' (first | exact Below.refl _ _ | refine below_alloc ?_ _)) hB1
  clear hO X0 A1 hB1
  have H2 := Lib.hid h2
  clear h2
  obtain ⟨x0, x1, x2, f0, f1, f2⟩ := id X1
  go_wp2_with fail
  refine (bits_n H2.out hb1).mono ?_
  rw [valL_limbs, HN.out]
  rintro x w2 ⟨rfl, hb2⟩
  have X2 := X1.below hb2
  have H3 := Lib.hid (H2.out.below hb2)
  have hB3 := below_step hB2 hb2
  clear H2 X1 hb2 hB2 x0 x1 x2 f0 f1 f2
  obtain ⟨x0, x1, x2, f0, f1, f2⟩ := id X2
  go_wp2_with fail
  refine (shr_n (xm / 2 ^ D) D H3.out (by rw [valL_limbs]) hb1 (by omega)).mono ?_
  rw [valL_limbs, HM.out, HL.out]
  rintro x w3 ⟨a3, n3, c3, rfl, h4, hb3⟩
  have X3 := X2.below hb3
  have hB4 := below_step hB3 hb3
  have H4 := Lib.hid h4
  clear hb3 X2 H3 hB3 h4 x0 x1 x2 f0 f1 f2
  obtain ⟨x0, x1, x2, f0, f1, f2⟩ := id X3
  by_cases hM0 : M = 0
  · have hn3 := H4.out.1
    rw [hM0, limbs_zero] at hn3
    obtain rfl : n3 = 0 := hn3
    rw [hM0] at hRnd
    clear hM0 H4
    go_wp2_with fail
    refine (hRnd _).mono ?_
    rintro x w4 ⟨rfl, hb4⟩
    go_wp2_with fail
    refine (float_any W _).mono ?_
    rintro x w' ⟨rfl, rfl⟩
    go_wp2_with fail
    go_ret2
    exact ⟨rfl, below_step (by (repeat' (first | exact Below.refl _ _ | assumption | (refine below_alloc ?_ _) | (refine Below.setCell ?_ ?_ _) | (refine Below.drew ?_) | (refine below_drewN ?_ _))) <;> (first | (simp; done) | (simp; omega) | omega)) hb4⟩
  · have hl1 := limbs_one hM0 hM2
    rw [hl1] at H4
    obtain ⟨bb, off, rfl, hc⟩ := H4.out.2.2.2.2 0 (by simp)
    have hn3 := H4.out.1
    obtain rfl : n3 = 1 := hn3
    have hc' : w3.cell? ⟨bb, off, none⟩ = some (.int .u64 (M : Int)) := by simpa using hc
    have hbl : bb < w3.heap.size := cell_lt hc
    clear hM0 H4 hl1 hc
    go_wp2_with fail
    refine (hRnd _).mono ?_
    rintro x w4 ⟨rfl, hb4⟩
    go_wp2_with fail
    refine (float_any W _).mono ?_
    rintro x w' ⟨rfl, rfl⟩
    go_wp2_with fail
    go_ret2
    exact ⟨rfl, below_step (by (repeat' (first | exact Below.refl _ _ | assumption | (refine below_alloc ?_ _) | (refine Below.setCell ?_ ?_ _) | (refine Below.drew ?_) | (refine below_drewN ?_ _))) <;> (first | (simp; done) | (simp; omega) | omega)) hb4⟩
end
end Go.Proofs.YtjlaadadbpffdaaGreatDoor
