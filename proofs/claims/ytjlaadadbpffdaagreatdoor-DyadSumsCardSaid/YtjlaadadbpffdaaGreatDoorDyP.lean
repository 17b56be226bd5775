/-
  The reference's dyads: May, Norm, Done, Half, Whole, Word, Turn, Neg, Abs, Sign, Shift.
-/
import Derived.Test.YtjlaadadbpffdaaGreatDoorDyM
import Derived.Test.YtjlaadadbpffdaaGreatDoorRbT
set_option linter.unusedSimpArgs false
set_option linter.unusedVariables false
namespace Go.Proofs.YtjlaadadbpffdaaGreatDoor
open Go.RowKit Go.Plumb
section
variable {w : World} {a b : Option Addr} {n c m d : Nat} {l k : List Nat}
set_option maxHeartbeats 1000000 in
theorem rMay2_any (h1 : Num w a n c l) (hl : l.length ≤ 4000) :
    Calls Tryz.prog 117 #[.slice a n c] w fun x w' => x = .returned (.bool true) ∧ w = w' := by
  obtain ⟨f, hf⟩ : ∃ f : Nat → Int, ∀ j, ((l.getD j 0 : Nat) : Int) = f j := ⟨fun j => ((l.getD j 0 : Nat) : Int), fun j => rfl⟩
  have hcells : Hid (∀ j, j < n → ∃ b off, a = some ⟨b, off, none⟩ ∧ w.cell? ⟨b, off + j, none⟩ = some (.int .u64 (f j))) := Lib.hid (fun j hj => by
    obtain ⟨b, off, e1, e2⟩ := h1.2.2.2.2 j (by rw [← h1.1]; exact hj)
    exact ⟨b, off, e1, by rw [e2, hf]⟩)
  have hc1 : n ≤ c := by rw [h1.1]; exact h1.2.1
  have hc2 : c ≤ maxLen := h1.2.2.1
  have hn : (n : Int) ≤ 4000 := by have := h1.1; omega
  clear h1 hl hf
  go_enter Tryz.func117, Tryz.ntmps117
  go_wp2_with fail
  go_loopw [3] (fun v wr => ∃ i : Int, v = .int .i64 i ∧ wr = w ∧ 0 ≤ i ∧ i ≤ (n : Int)) (fun v _ => (intOf v).toNat)
  case atStart => exact ⟨n, rfl, rfl, by omega, Int.le_refl _⟩
  case round =>
    obtain ⟨i, rfl, rfl, hi0, hi1⟩ := hrel
    by_cases h0 : i = 0
    · subst h0
      go_wp2_with fail
      go_ret
      exact ⟨rfl, rfl⟩
    · have hi : 0 < i := by omega
      have hi2 : i - 1 < (n : Int) := by omega
      have hi3 : 0 ≤ i - 1 := by omega
      obtain ⟨bb, off, rfl, hc⟩ := hcells.out (i.toNat - 1) (by omega)
      obtain ⟨F, hF⟩ : ∃ F, f (i.toNat - 1) = F := ⟨_, rfl⟩
      rw [hF] at hc
      have hi4 : i ≤ 4000 := by omega
      clear h0 hF
      by_cases hz : F = 0
      · have hz1 : (F == 0) = true := by simpa using hz
        subst hz
        go_wp2_with fail
        refine ⟨⟨i - 1, rfl, trivial, by omega, by omega⟩, by simp [intOf]; omega⟩
      · have hz1 : (F == 0) = false := by simpa using hz
        have hd : decide (i ≤ 4096) = true := decide_eq_true (by omega)
        go_wp2_with fail
        go_ret
        exact ⟨by first | rfl | (simp [hd]; done) | (simp; omega), rfl⟩
theorem rMay3_any (s : Bool) (e : Int) (h1 : Num w a n c l) (hl : l.length ≤ 4000) :
    Calls Tryz.prog 53 #[.agg #[.bool s, .slice a n c, .int .i64 e]] w fun x w' => x = .returned (.bool (decide (mayE e))) ∧ Below w.heap.size w w' := by
  have hN := fun w' (hb : Below w.heap.size w w') => rMay2_any (h1.below hb) hl
  have e1 : decide (mayE e) = (decide (-262144 ≤ e) && decide (e ≤ 262144)) := by
    rw [Bool.eq_iff_iff, decide_eq_true_iff, Bool.and_eq_true, decide_eq_true_iff, decide_eq_true_iff]
    exact Iff.rfl
  rw [e1]
  clear h1 hl e1
  go_enter Tryz.func53, Tryz.ntmps53
  go_wp2_with fail
  refine (hN _ (by repeat' (first | exact Below.refl _ _ | refine below_alloc ?_ _))).mono ?_
  rintro x w' ⟨rfl, rfl⟩
  go_wp2_with fail
  all_goals go_ret
  · rename_i h
    rw [decide_eq_true h]
    exact ⟨rfl, by (repeat' (first | exact Below.refl _ _ | assumption | (refine below_alloc ?_ _) | (refine Below.setCell ?_ ?_ _) | (refine Below.drew ?_) | (refine below_drewN ?_ _))) <;> (first | (simp; done) | (simp; omega) | omega)⟩
  · rename_i h
    rw [decide_eq_false (by omega)]
    exact ⟨rfl, by (repeat' (first | exact Below.refl _ _ | assumption | (refine below_alloc ?_ _) | (refine Below.setCell ?_ ?_ _) | (refine Below.drew ?_) | (refine below_drewN ?_ _))) <;> (first | (simp; done) | (simp; omega) | omega)⟩
set_option maxHeartbeats 1000000 in
theorem rNorm3_any (s : Bool) (e : Int) (h1 : Num w a n c l) (hl : l.length ≤ 4000) (he0 : -1000000000 ≤ e) (he1 : e ≤ 1000000000) :
    Calls Tryz.prog 82 #[.agg #[.bool s, .slice a n c, .int .i64 e]] w fun x w' => ∃ a' n' c', x = .returned (.agg #[.bool (nrm ⟨s, valL l, e⟩).s, .slice a' n' c', .int .i64 (nrm ⟨s, valL l, e⟩).e]) ∧ Num w' a' n' c' (limbs (nrm ⟨s, valL l, e⟩).m) ∧ Below w.heap.size w w' := by
  have hN := fun w' (hb : Below w.heap.size w w') => rnorm_n (h1.below hb) hl
  obtain ⟨V, hV⟩ : ∃ V, valL l = V := ⟨_, rfl⟩
  have hz := zerosN_len h1.limbs hl
  have hlen : (limbs V).length ≤ 4000 := by rw [← hV]; exact Nat.le_trans (len_of h1.limbs) hl
  rw [hV] at hN hz ⊢
  clear h1 hV hl
  obtain ⟨Z, hZ⟩ : ∃ Z, zerosN V = Z := ⟨_, rfl⟩
  have X0 := (Boxed3.new w s a n c e 24 rfl).alloc (.cells #[.bool false, .slice none 0 0, .int .i64 0] 24)
  have R0 := Boxed3.new (w.alloc (.cells #[.bool s, .slice a n c, .int .i64 e] 24)) false none 0 0 0 24 (g := w.heap.size + 1) (by simp)
  by_cases h0 : V = 0
  · have hR := nrm_zero (d := ⟨s, V, e⟩) h0
    rw [hR]
    clear hR
    go_enter Tryz.func82, Tryz.ntmps82
    go_wp2_with fail
    refine (hN _ (by (repeat' (first | exact Below.refl _ _ | assumption | (refine below_alloc ?_ _) | (refine Below.setCell ?_ ?_ _) | (refine Below.drew ?_) | (refine below_drewN ?_ _))) <;> (first | (simp; done) | (simp; omega) | omega))).mono ?_
    rintro x w1 ⟨a', n', c', rfl, hn, hb1⟩
    have hB1 := below_step (w0 := w) (by (repeat' (first | exact Below.refl _ _ | assumption | (refine below_alloc ?_ _) | (refine Below.setCell ?_ ?_ _) | (refine Below.drew ?_) | (refine below_drewN ?_ _))) <;> (first | (simp; done) | (simp; omega) | omega)) hb1
    have X1 := X0.below hb1
    have R1 := R0.below hb1
    have hn1 := Lib.hid hn
    have hn0 := hn.1
    clear hn X0 R0 hb1
    obtain ⟨x0, x1, x2, _, _, _⟩ := id X1
    obtain ⟨r0, r1, r2, g0, g1, g2⟩ := id R1
    rw [h0, limbs_zero] at hn0
    obtain rfl : n' = 0 := hn0
    go_wp2_with fail
    exact bodyPost_ret (v := .agg #[.bool false, .slice none 0 0, .int .i64 0]) (by simp [results, Tryz.results82, go_sem, r0, r1, r2, g0, g1, g2]) rfl ⟨none, 0, 0, rfl, by show Num _ _ _ _ (limbs 0); rw [limbs_zero]; exact Num.nil _, by (repeat' (first | exact Below.refl _ _ | assumption | (refine below_alloc ?_ _) | (refine Below.setCell ?_ ?_ _) | (refine Below.drew ?_) | (refine below_drewN ?_ _))) <;> (first | (simp; done) | (simp; omega) | omega)⟩
  · have hR := nrm_pos (d := ⟨s, V, e⟩) h0
    simp only [hZ] at hR hz
    obtain ⟨X, hX⟩ : ∃ X, nrm ⟨s, V, e⟩ = X := ⟨_, rfl⟩
    rw [hX] at hR ⊢
    clear hX
    have HR := Lib.hid hR
    clear hR
    have hz2 : (Z : Int) ≤ 256000 := by omega
    have hz3 : (0 : Int) ≤ Z := by omega
    clear hz
    go_enter Tryz.func82, Tryz.ntmps82
    go_wp2_with fail
    refine (hN _ (by (repeat' (first | exact Below.refl _ _ | assumption | (refine below_alloc ?_ _) | (refine Below.setCell ?_ ?_ _) | (refine Below.drew ?_) | (refine below_drewN ?_ _))) <;> (first | (simp; done) | (simp; omega) | omega))).mono ?_
    rintro x w1 ⟨a', n', c', rfl, hn, hb1⟩
    have hB1 := below_step (w0 := w) (by (repeat' (first | exact Below.refl _ _ | assumption | (refine below_alloc ?_ _) | (refine Below.setCell ?_ ?_ _) | (refine Below.drew ?_) | (refine below_drewN ?_ _))) <;> (first | (simp; done) | (simp; omega) | omega)) hb1
    have X1 := X0.below hb1
    have R1 := R0.below hb1
    have hn1 := Lib.hid hn
    have hn0 := hn.1
    clear hn X0 R0 hb1
    obtain ⟨x0, x1, x2, _, _, _⟩ := id X1
    obtain ⟨r0, r1, r2, g0, g1, g2⟩ := id R1
    have hn2 : n' ≠ 0 := by rw [hn0]; exact fun h => h0 (limbs_nil.1 h)
    clear hn0
    go_wp2_with fail
    refine (rzeros_n hn1.out hlen).mono ?_
    rw [valL_limbs, hZ]
    rintro x w2 ⟨rfl, hb2⟩
    have hB2 := below_step hB1 hb2
    have hn3 := Lib.hid (hn1.out.below hb2)
    have X2 := X1.below hb2
    have R2 := R1.below hb2
    clear hb2 hB1 hn1 X1 R1 x0 x1 x2 r0 r1 r2 g0 g1 g2
    obtain ⟨x0, x1, x2, _, _, _⟩ := id X2
    obtain ⟨r0, r1, r2, g0, g1, g2⟩ := id R2
    go_wp2_with fail
    refine (rshr_n (V / 2 ^ Z) Z hn3.out (by rw [valL_limbs]) hlen (by omega)).mono ?_
    rintro x w3 ⟨a3, n3, c3, rfl, h3, hb3⟩
    have hB3 := below_step hB2 hb3
    have X3 := X2.below hb3
    have R3 := R2.below hb3
    have h4 := Lib.hid h3
    clear hb3 hB2 hn3 X2 R2 x0 x1 x2 r0 r1 r2 g0 g1 g2 h3
    obtain ⟨x0, x1, x2, _, _, _⟩ := id X3
    obtain ⟨r0, r1, r2, g0, g1, g2⟩ := id R3
    go_wp2_with fail
    have hR := HR.out
    subst hR
    refine bodyPost_ret (v := .agg #[.bool s, .slice a3 n3 c3, .int .i64 (e + (Z : Int))]) (by simp [results, Tryz.results82, go_sem, r0, r1, r2, g0, g1, g2]) rfl ⟨a3, n3, c3, rfl, ?_, by (repeat' (first | exact Below.refl _ _ | assumption | (refine below_alloc ?_ _) | (refine Below.setCell ?_ ?_ _) | (refine Below.drew ?_) | (refine below_drewN ?_ _))) <;> (first | (simp; done) | (simp; omega) | omega)⟩
    show Num _ _ _ _ (limbs (oddN V))
    unfold oddN
    rw [hZ]
    exact Num.fill R3 h4.out _ _ _ _ _
set_option maxHeartbeats 1000000 in
theorem rDone3_any (s : Bool) (e : Int) (h1 : Num w a n c l) (hl : l.length ≤ 4000) (he0 : -1000000000 ≤ e) (he1 : e ≤ 1000000000) :
    Calls Tryz.prog 55 #[.agg #[.bool s, .slice a n c, .int .i64 e]] w fun x w' => ∃ a' n' c', x = .returned (.tuple #[.agg #[.bool (doneO ⟨s, valL l, e⟩).1.s, .slice a' n' c', .int .i64 (doneO ⟨s, valL l, e⟩).1.e], .int .i64 (doneO ⟨s, valL l, e⟩).2]) ∧ Num w' a' n' c' (limbs (doneO ⟨s, valL l, e⟩).1.m) ∧ Below w.heap.size w w' := by
  have hO := fun w' (hb : Below w.heap.size w w') => rNorm3_any s e (h1.below hb) hl he0 he1
  have hlen : (limbs (nrm ⟨s, valL l, e⟩).m).length ≤ 4000 := by rw [nrm_m]; exact Nat.le_trans (len_odd h1.limbs) hl
  unfold doneO
  obtain ⟨X, hX⟩ : ∃ X, nrm ⟨s, valL l, e⟩ = X := ⟨_, rfl⟩
  simp only [hX] at hO hlen ⊢
  obtain ⟨xs, xm, xe⟩ := X
  have hM := fun w' a' n' c' (hn : Num w' a' n' c' (limbs xm)) => rMay3_any xs xe hn hlen
  simp only at hO ⊢
  clear hX h1 hlen
  have X0 := (Boxed3.new w s a n c e 24 rfl).alloc (.cells #[.bool false, .slice none 0 0, .int .i64 0] 24)
  have R0 := Boxed3.new (w.alloc (.cells #[.bool s, .slice a n c, .int .i64 e] 24)) false none 0 0 0 24 (g := w.heap.size + 1) (by simp)
  by_cases hm : mayE xe
  all_goals (first | rw [if_pos hm] | rw [if_neg hm])
  all_goals (first | simp only [decide_eq_true hm] at hM | simp only [decide_eq_false hm] at hM)
  all_goals clear hm
  all_goals go_enter Tryz.func55, Tryz.ntmps55
  all_goals go_wp2_with fail
  all_goals refine (hO _ (by (repeat' (first | exact Below.refl _ _ | assumption | (refine below_alloc ?_ _) | (refine Below.setCell ?_ ?_ _) | (refine Below.drew ?_) | (refine below_drewN ?_ _))) <;> (first | (simp; done) | (simp; omega) | omega))).mono ?_
  all_goals rintro x w1 ⟨a', n', c', rfl, hn, hb1⟩
  all_goals have hB1 := below_step (w0 := w) (by (repeat' (first | exact Below.refl _ _ | assumption | (refine below_alloc ?_ _) | (refine Below.setCell ?_ ?_ _) | (refine Below.drew ?_) | (refine below_drewN ?_ _))) <;> (first | (simp; done) | (simp; omega) | omega)) hb1
  all_goals have X1 := X0.below hb1
  all_goals have R1 := R0.below hb1
  all_goals have N1 := Num.fill X1 hn xs a' n' c' xe
  all_goals have X2 := X1.fill xs a' n' c' xe
  all_goals have R2 := ((R1.other (k := w.heap.size) (by omega) 0 (.bool xs)).other (k := w.heap.size) (by omega) 1 (.slice a' n' c')).other (k := w.heap.size) (by omega) 2 (.int .i64 xe)
  all_goals have hM1 := hM _ a' n' c' N1
  all_goals clear hn X0 R0 hb1 hM
  all_goals obtain ⟨x0, x1, x2, f0, f1, f2⟩ := id X1
  all_goals go_wp2_with fail
  all_goals refine hM1.mono ?_
  all_goals rintro x w2 ⟨rfl, hb2⟩
  all_goals have X3 := X2.below hb2
  all_goals have R3 := R2.below hb2
  all_goals have N3 := Lib.hid (N1.below hb2)
  all_goals have hB3 := below_step (w0 := w) (by (repeat' (first | exact Below.refl _ _ | assumption | (refine below_alloc ?_ _) | (refine Below.setCell ?_ ?_ _) | (refine Below.drew ?_) | (refine below_drewN ?_ _))) <;> (first | (simp; done) | (simp; omega) | omega)) hb2
  all_goals clear hb2 hM1 X1 X2 R1 R2 N1 x0 x1 x2 f0 f1 f2
  all_goals obtain ⟨x0, x1, x2, f0, f1, f2⟩ := id X3
  all_goals obtain ⟨r0, r1, r2, g0, g1, g2⟩ := id R3
  all_goals go_wp2_with fail
  · refine bodyPost_ret (v := .tuple #[.agg #[.bool xs, .slice a' n' c', .int .i64 xe], .int .i64 0]) (by simp [results, Tryz.results55, go_sem, r0, r1, r2, g0, g1, g2, x0, x1, x2]) rfl ⟨a', n', c', rfl, Num.fill R3 N3.out .., by (repeat' (first | exact Below.refl _ _ | assumption | (refine below_alloc ?_ _) | (refine Below.setCell ?_ ?_ _) | (refine Below.drew ?_) | (refine below_drewN ?_ _))) <;> (first | (simp; done) | (simp; omega) | omega)⟩
  · refine bodyPost_ret (v := .tuple #[.agg #[.bool false, .slice none 0 0, .int .i64 0], .int .i64 3]) (by simp [results, Tryz.results55, go_sem, r0, r1, r2, g0, g1, g2]) rfl ⟨none, 0, 0, rfl, by show Num _ _ _ _ (limbs 0); rw [limbs_zero]; exact Num.nil _, by (repeat' (first | exact Below.refl _ _ | assumption | (refine below_alloc ?_ _) | (refine Below.setCell ?_ ?_ _) | (refine Below.drew ?_) | (refine below_drewN ?_ _))) <;> (first | (simp; done) | (simp; omega) | omega)⟩

set_option maxHeartbeats 1000000 in
theorem rHalf3_any (e : Int) (hm : mayE e) :
    Calls Tryz.prog 33 #[.int .i64 e] w fun x w' => ∃ a' n' c', x = .returned (.tuple #[.agg #[.bool false, .slice a' n' c', .int .i64 e], .int .i64 0]) ∧ Num w' a' n' c' (limbs 1) ∧ Below w.heap.size w w' := by
  obtain ⟨h0, h1⟩ := hm
  have hN := num_one (W := w.alloc (.cells #[.bool false, .slice none 0 0, .int .i64 0] 24)) (g := w.heap.size + 1) (x := 1) (t := 31) (by simp) (by decide)
  have R1 := (Boxed3.new w false none 0 0 0 24 (g := w.heap.size) rfl).alloc (.cells #[.int .u64 ((1 : Nat) : Int)] 31)
  go_enter Tryz.func33, Tryz.ntmps33
  go_wp2_with fail
  exact bodyPost_ret (v := .tuple #[.agg #[.bool false, .slice (some ⟨w.heap.size + 1, 0, none⟩) 1 1, .int .i64 e], .int .i64 0]) (by simp [results, Tryz.results33, go_sem]) rfl ⟨some ⟨w.heap.size + 1, 0, none⟩, 1, 1, rfl, by rw [limbs_o]; exact num_one (x := 1) (by simp) (by decide), by (repeat' (first | exact Below.refl _ _ | assumption | (refine below_alloc ?_ _) | (refine Below.setCell ?_ ?_ _) | (refine Below.drew ?_) | (refine below_drewN ?_ _))) <;> (first | (simp; done) | (simp; omega) | omega)⟩
theorem rHalf3_bad (e : Int) (hm : ¬ mayE e) :
    Calls Tryz.prog 33 #[.int .i64 e] w fun x w' => x = .returned (.tuple #[.agg #[.bool false, .slice none 0 0, .int .i64 0], .int .i64 3]) ∧ Below w.heap.size w w' := by
  have h : e < -262144 ∨ (¬ e < -262144 ∧ 262144 < e) := by
    by_cases h : e < -262144
    · exact .inl h
    · exact .inr ⟨h, Int.not_le.1 fun h' => hm ⟨by omega, h'⟩⟩
  clear hm
  rcases h with h | ⟨h, h'⟩
  all_goals go_enter Tryz.func33, Tryz.ntmps33
  all_goals go_wp2_with fail
  all_goals exact bodyPost_ret (v := .tuple #[.agg #[.bool false, .slice none 0 0, .int .i64 0], .int .i64 3]) (by simp [results, Tryz.results33, go_sem]) rfl ⟨rfl, by (repeat' (first | exact Below.refl _ _ | assumption | (refine below_alloc ?_ _) | (refine Below.setCell ?_ ?_ _) | (refine Below.drew ?_) | (refine below_drewN ?_ _))) <;> (first | (simp; done) | (simp; omega) | omega)⟩

set_option maxHeartbeats 1000000 in
theorem rWhole3_any (x : Int) (h0 : -9223372036854775808 ≤ x) (h1 : x ≤ 9223372036854775807) {X : Dy} (hX : nrm ⟨decide (x < 0), x.natAbs, 0⟩ = X) :
    Calls Tryz.prog 35 #[.int .i64 x] w fun z w' => ∃ a' n' c', z = .returned (.agg #[.bool X.s, .slice a' n' c', .int .i64 X.e]) ∧ Num w' a' n' c' (limbs X.m) ∧ Below w.heap.size w w' := by
  have R0 := Boxed3.new w false none 0 0 0 24 (g := w.heap.size) rfl
  obtain ⟨M, hM⟩ : ∃ M, x.natAbs = M := ⟨_, rfl⟩
  have hM1 : M < 18446744073709551616 := by omega
  have hN : Num ((w.alloc (.cells #[.bool false, .slice none 0 0, .int .i64 0] 24)).alloc (.cells #[.int .u64 (M : Int)] 31)) (some ⟨w.heap.size + 1, 0, none⟩) 1 1 [M] := num_one (by simp) hM1
  have hv : valL [M] = M := by simp [valL]
  obtain ⟨B, hB⟩ : ∃ B, decide (x < 0) = B := ⟨_, rfl⟩
  have hD := rNorm3_any B 0 hN (by simp) (by omega) (by omega)
  rw [hM, hB] at hX
  rw [hv, hX] at hD
  have R1 := R0.alloc (.cells #[.int .u64 (M : Int)] 31)
  have e1 : x < 0 → IntKind.u64.wrap (-(IntKind.u64.wrap x)) = (M : Int) := by intro h; rw [IntKind.wrap_u64, IntKind.wrap_u64]; omega
  have e2 : ¬ x < 0 → IntKind.u64.wrap x = (M : Int) := by intro h; rw [IntKind.wrap_u64]; omega
  clear hN hv hX R0
  by_cases hx : x < 0
  · have e1 := e1 hx
    clear e2
    obtain rfl : true = B := by rw [← hB]; exact (decide_eq_true hx).symm
    have hx' : decide (x < 0) = true := decide_eq_true hx
    clear hM hM1 hB
    go_enter Tryz.func35, Tryz.ntmps35
    go_wp2_with fail
    refine hD.mono ?_
    rintro z w2 ⟨a2, n2, c2, rfl, N2, hb⟩
    have R2 := R1.below hb
    have hB2 := below_step (w0 := w) (by (repeat' (first | exact Below.refl _ _ | assumption | (refine below_alloc ?_ _) | (refine Below.setCell ?_ ?_ _) | (refine Below.drew ?_) | (refine below_drewN ?_ _))) <;> (first | (simp; done) | (simp; omega) | omega)) hb
    obtain ⟨r0, r1, r2, g0, g1, g2⟩ := id R2
    clear hD R1 hb
    go_wp2_with fail
    exact bodyPost_ret (v := .agg #[.bool X.s, .slice a2 n2 c2, .int .i64 X.e]) (by simp [results, Tryz.results35, go_sem, r0, r1, r2, g0, g1, g2]) rfl ⟨a2, n2, c2, rfl, Num.fill R2 N2 .., by (repeat' (first | exact Below.refl _ _ | assumption | (refine below_alloc ?_ _) | (refine Below.setCell ?_ ?_ _) | (refine Below.drew ?_) | (refine below_drewN ?_ _))) <;> (first | (simp; done) | (simp; omega) | omega)⟩
  · have e2 := e2 hx
    clear e1
    obtain rfl : false = B := by rw [← hB]; exact (decide_eq_false hx).symm
    have hx' : decide (x < 0) = false := decide_eq_false hx
    clear hM hM1 hB
    go_enter Tryz.func35, Tryz.ntmps35
    go_wp2_with fail
    refine hD.mono ?_
    rintro z w2 ⟨a2, n2, c2, rfl, N2, hb⟩
    have R2 := R1.below hb
    have hB2 := below_step (w0 := w) (by (repeat' (first | exact Below.refl _ _ | assumption | (refine below_alloc ?_ _) | (refine Below.setCell ?_ ?_ _) | (refine Below.drew ?_) | (refine below_drewN ?_ _))) <;> (first | (simp; done) | (simp; omega) | omega)) hb
    obtain ⟨r0, r1, r2, g0, g1, g2⟩ := id R2
    clear hD R1 hb
    go_wp2_with fail
    exact bodyPost_ret (v := .agg #[.bool X.s, .slice a2 n2 c2, .int .i64 X.e]) (by simp [results, Tryz.results35, go_sem, r0, r1, r2, g0, g1, g2]) rfl ⟨a2, n2, c2, rfl, Num.fill R2 N2 .., by (repeat' (first | exact Below.refl _ _ | assumption | (refine below_alloc ?_ _) | (refine Below.setCell ?_ ?_ _) | (refine Below.drew ?_) | (refine below_drewN ?_ _))) <;> (first | (simp; done) | (simp; omega) | omega)⟩
set_option maxHeartbeats 1000000 in
theorem rWord3_any (x : Nat) (hx : x < 18446744073709551616) (hc : classI (x : Int) ≤ 3) {X : Dy} (hX : nrm (dyW x) = X) :
    Calls Tryz.prog 31 #[.int .u64 (x : Int)] w fun z w' => ∃ a' n' c', z = .returned (.agg #[.bool X.s, .slice a' n' c', .int .i64 X.e]) ∧ Num w' a' n' c' (limbs X.m) ∧ Below w.heap.size w w' := by
  have R0 := Boxed3.new w false none 0 0 0 24 (g := w.heap.size) rfl
  have hPa := fun w => rparts_any (x : Int) w (by omega) (by omega) hc
  have hml := dyW_m_lt x
  have hel := dyW_e x
  have h1 : (dyW x).s = pNeg (x : Int) := rfl
  have h2 : ((dyW x).m : Int) = pMan (x : Int) := by have := pMan_ge (x : Int); show ((pMan (x : Int)).toNat : Int) = _; omega
  have h3 : (dyW x).e = pExp (x : Int) := rfl
  simp only [← h1, ← h2, ← h3] at hPa
  obtain ⟨⟨xs, xm, xe⟩, hY⟩ : ∃ Y, dyW x = Y := ⟨_, rfl⟩
  simp only [hY] at hPa hml hel hX
  have hD := fun w a (hN : Num w a 1 1 [xm]) => rNorm3_any xs xe hN (by simp) (by omega) (by omega)
  have hv : valL [xm] = xm := by simp [valL]
  simp only [hv, hX] at hD
  have hxm : xm < 18446744073709551616 := by omega
  clear h1 h2 h3 hY hX hml hc hx hv
  go_enter Tryz.func31, Tryz.ntmps31
  go_wp2_with fail
  refine (hPa _).mono ?_
  rintro z w1 ⟨rfl, hb⟩
  have R1 := ((R0.below hb).alloc (.cells #[.bool xs, .int .u64 (xm : Int), .int .i64 xe] 97)).alloc (.cells #[.int .u64 (xm : Int)] 31)
  have hB1 := below_step (w0 := w) (by (repeat' (first | exact Below.refl _ _ | assumption | (refine below_alloc ?_ _) | (refine Below.setCell ?_ ?_ _) | (refine Below.drew ?_) | (refine below_drewN ?_ _))) <;> (first | (simp; done) | (simp; omega) | omega)) hb
  have hN : Num ((w1.alloc (.cells #[.bool xs, .int .u64 (xm : Int), .int .i64 xe] 97)).alloc (.cells #[.int .u64 (xm : Int)] 31)) (some ⟨w1.heap.size + 1, 0, none⟩) 1 1 [xm] := num_one (by simp) hxm
  have hD1 := hD _ _ hN
  clear hD hN hPa R0 hb
  go_wp2_with fail
  refine hD1.mono ?_
  rintro z w2 ⟨a2, n2, c2, rfl, N2, hb⟩
  have R2 := R1.below hb
  have hB2 := below_step (w0 := w) (by (repeat' (first | exact Below.refl _ _ | assumption | (refine below_alloc ?_ _) | (refine Below.setCell ?_ ?_ _) | (refine Below.drew ?_) | (refine below_drewN ?_ _))) <;> (first | (simp; done) | (simp; omega) | omega)) hb
  obtain ⟨r0, r1, r2, g0, g1, g2⟩ := id R2
  clear hD1 R1 hb
  go_wp2_with fail
  exact bodyPost_ret (v := .agg #[.bool X.s, .slice a2 n2 c2, .int .i64 X.e]) (by simp [results, Tryz.results31, go_sem, r0, r1, r2, g0, g1, g2]) rfl ⟨a2, n2, c2, rfl, Num.fill R2 N2 .., by (repeat' (first | exact Below.refl _ _ | assumption | (refine below_alloc ?_ _) | (refine Below.setCell ?_ ?_ _) | (refine Below.drew ?_) | (refine below_drewN ?_ _))) <;> (first | (simp; done) | (simp; omega) | omega)⟩
end
end Go.Proofs.YtjlaadadbpffdaaGreatDoor
