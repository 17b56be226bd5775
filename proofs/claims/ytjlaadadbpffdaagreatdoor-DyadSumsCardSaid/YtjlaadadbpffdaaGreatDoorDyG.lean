/-
  dyad: Add at every two, Sub, Neg, Abs, Shift, Half, Whole.
-/
import Derived.Test.YtjlaadadbpffdaaGreatDoorDyF
set_option linter.unusedSimpArgs false
set_option linter.unusedVariables false
namespace Go.Plumb
open Go.RowKit
theorem limbs_o : limbs 1 = [1] := limbs_one (by decide) (by decide)
end Go.Plumb
namespace Go.Proofs.YtjlaadadbpffdaaGreatDoor
open Go.RowKit Go.Plumb

section
variable {w : World} {a b : Option Addr} {n c m d : Nat} {l k : List Nat}
set_option maxHeartbeats 2000000 in
theorem dAdd_any (s s' : Bool) (e e' : Int) (R : Dy) (r : Int) (hT : Tab w) (h1 : Num w a n c l) (h2 : Num w b m d k) (hl : l.length + k.length ≤ 1000) (hnear : farD (nrm ⟨s, valL l, e⟩) (nrm ⟨s', valL k, e'⟩) ∨ nearD (nrm ⟨s, valL l, e⟩) (nrm ⟨s', valL k, e'⟩)) (hO : addO ⟨s, valL l, e⟩ ⟨s', valL k, e'⟩ = (R, r)) :
    Calls Tryz.prog 38 #[.agg #[.bool s, .slice a n c, .int .i64 e], .agg #[.bool s', .slice b m d, .int .i64 e']] w fun x w' => ∃ a' n' c', x = .returned (.tuple #[.agg #[.bool R.s, .slice a' n' c', .int .i64 R.e], .int .i64 r]) ∧ Num w' a' n' c' (limbs R.m) ∧ Below w.heap.size w w' := by
  obtain ⟨X0, Y0, R0⟩ := three_boxes w s s' a b n c m d e e' 24
  by_cases hm : mayE e
  · by_cases hm' : mayE e'
    · exact dAdd_ok s s' e e' R r hT h1 h2 hl hm hm' hnear hO
    · unfold addO at hO
      rw [if_neg (fun h => hm' h.2)] at hO
      obtain ⟨rfl, rfl⟩ : zeroD = R ∧ 2 = r := ⟨congrArg Prod.fst hO, congrArg Prod.snd hO⟩
      have hP := fun g w' (hb : Below w.heap.size w w') (hp) (hp') (hx) (hx') (hg) (hg') => dopen2_bad (w.heap.size) g w.heap.size (w.heap.size + 1) s s' a b n c m d l k e e' w' (Nat.le_refl _) (Nat.le_succ _) hb.size hg hg' (by omega) (by omega) hp hp' hx hx' (h1.below hb) (h2.below hb) (fun w'' hb' => hT.below (hb.trans hb')) (by omega) (by omega) hm hm'
      clear hO hT hm hm' h1 h2 hl hnear
      go_enter Tryz.func38, Tryz.ntmps38
      go_wp2_with fail
      refine (hP _ _ (by repeat' (first | exact Below.refl _ _ | refine below_alloc ?_ _)) (by simp [go_sem]) (by simp [go_sem]) (X0.alloc _) (Y0.alloc _) (by omega) (by omega)).mono ?_
      rintro x w1 ⟨rfl, hB1, A1⟩
      have R1 := (R0.alloc _).apart A1 (by omega) (by omega)
      have hB2 : Below w.heap.size w w1 := Below.trans (by repeat' (first | exact Below.refl _ _ | refine below_alloc ?_ _)) hB1
      obtain ⟨r0, r1, r2, g0, g1, g2⟩ := id R1
      clear hP X0 Y0 R0 A1 hB1
      go_wp2_with fail
      exact bodyPost_ret (v := .tuple #[.agg #[.bool false, .slice none 0 0, .int .i64 0], .int .i64 2]) (by simp [results, Tryz.results38, go_sem, r0, r1, r2, g0, g1, g2]) rfl ⟨none, 0, 0, rfl, (by show Num _ _ _ _ (limbs 0); rw [limbs_zero]; exact Num.nil _), by (repeat' (first | exact Below.refl _ _ | assumption | (refine below_alloc ?_ _) | (refine Below.setCell ?_ ?_ _) | (refine Below.drew ?_) | (refine below_drewN ?_ _))) <;> (first | (simp; done) | (simp; omega) | omega)⟩
  · unfold addO at hO
    rw [if_neg (fun h => hm h.1)] at hO
    obtain ⟨rfl, rfl⟩ : zeroD = R ∧ 2 = r := ⟨congrArg Prod.fst hO, congrArg Prod.snd hO⟩
    have hP := fun g w' (hb : Below w.heap.size w w') (hp) (hx) (hg) => dopen1_bad g w.heap.size 2 (by omega) (by omega) s a n c l e w' hg hp hx (h1.below hb) (by omega) hm
    clear hO hT hm h1 h2 hl hnear
    go_enter Tryz.func38, Tryz.ntmps38
    go_wp2_with fail
    refine (hP _ _ (by repeat' (first | exact Below.refl _ _ | refine below_alloc ?_ _)) (by simp [go_sem]) (X0.alloc _) (by omega)).mono ?_
    rintro x w1 ⟨rfl, hb1⟩
    have R1 := (R0.alloc _).below hb1
    have hB1 := below_step (w0 := w) (by (repeat' (first | exact Below.refl _ _ | assumption | (refine below_alloc ?_ _) | (refine Below.setCell ?_ ?_ _) | (refine Below.drew ?_) | (refine below_drewN ?_ _))) <;> (first | (simp; done) | (simp; omega) | omega)) hb1
    obtain ⟨r0, r1, r2, g0, g1, g2⟩ := id R1
    clear hP X0 Y0 R0
    go_wp2_with fail
    exact bodyPost_ret (v := .tuple #[.agg #[.bool false, .slice none 0 0, .int .i64 0], .int .i64 2]) (by simp [results, Tryz.results38, go_sem, r0, r1, r2, g0, g1, g2]) rfl ⟨none, 0, 0, rfl, (by show Num _ _ _ _ (limbs 0); rw [limbs_zero]; exact Num.nil _), by (repeat' (first | exact Below.refl _ _ | assumption | (refine below_alloc ?_ _) | (refine Below.setCell ?_ ?_ _) | (refine Below.drew ?_) | (refine below_drewN ?_ _))) <;> (first | (simp; done) | (simp; omega) | omega)⟩

set_option maxHeartbeats 1000000 in
theorem dSub_any (s s' : Bool) (e e' : Int) (R : Dy) (r : Int) (hT : Tab w) (h1 : Num w a n c l) (h2 : Num w b m d k) (hl : l.length + k.length ≤ 1000) (hnear : farD (nrm ⟨s, valL l, e⟩) (nrm ⟨!s', valL k, e'⟩) ∨ nearD (nrm ⟨s, valL l, e⟩) (nrm ⟨!s', valL k, e'⟩)) (hO : addO ⟨s, valL l, e⟩ ⟨!s', valL k, e'⟩ = (R, r)) :
    Calls Tryz.prog 40 #[.agg #[.bool s, .slice a n c, .int .i64 e], .agg #[.bool s', .slice b m d, .int .i64 e']] w fun x w' => ∃ a' n' c', x = .returned (.tuple #[.agg #[.bool R.s, .slice a' n' c', .int .i64 R.e], .int .i64 r]) ∧ Num w' a' n' c' (limbs R.m) ∧ Below w.heap.size w w' := by
  obtain ⟨X0, Y0, R0⟩ := three_boxes w s (!s') a b n c m d e e' 24
  have hA := fun w' (hb : Below w.heap.size w w') => dAdd_any s (!s') e e' R r (hT.below hb) (h1.below hb) (h2.below hb) hl hnear hO
  clear hO hT h1 h2 hl hnear X0 Y0
  go_enter Tryz.func40, Tryz.ntmps40
  go_wp2_with fail
  refine (hA _ (by repeat' (first | exact Below.refl _ _ | refine below_alloc ?_ _))).mono ?_
  rintro x w1 ⟨a1, n1, c1, rfl, N1, hb⟩
  have R1 := R0.below hb
  have hB := below_step (w0 := w) (by (repeat' (first | exact Below.refl _ _ | assumption | (refine below_alloc ?_ _) | (refine Below.setCell ?_ ?_ _) | (refine Below.drew ?_) | (refine below_drewN ?_ _))) <;> (first | (simp; done) | (simp; omega) | omega)) hb
  obtain ⟨r0, r1, r2, g0, g1, g2⟩ := id R1
  clear hA R0
  go_wp2_with fail
  exact bodyPost_ret (v := .tuple #[.agg #[.bool R.s, .slice a1 n1 c1, .int .i64 R.e], .int .i64 r]) (by simp [results, Tryz.results40, go_sem, r0, r1, r2, g0, g1, g2]) rfl ⟨a1, n1, c1, rfl, Num.fill R1 N1 .., by (repeat' (first | exact Below.refl _ _ | assumption | (refine below_alloc ?_ _) | (refine Below.setCell ?_ ?_ _) | (refine Below.drew ?_) | (refine below_drewN ?_ _))) <;> (first | (simp; done) | (simp; omega) | omega)⟩

set_option maxHeartbeats 1000000 in
theorem dNeg_any (s : Bool) (e : Int) (R : Dy) (r : Int) (hT : Tab w) (h1 : Num w a n c l) (hl : l.length ≤ 4000) (hO : normO ⟨!s, valL l, e⟩ = (R, r)) :
    Calls Tryz.prog 51 #[.agg #[.bool s, .slice a n c, .int .i64 e]] w fun x w' => ∃ a' n' c', x = .returned (.tuple #[.agg #[.bool R.s, .slice a' n' c', .int .i64 R.e], .int .i64 r]) ∧ Num w' a' n' c' (limbs R.m) ∧ Below w.heap.size w w' := by
  have R0 := Boxed3.new (w.alloc (.cells #[.bool (!s), .slice a n c, .int .i64 e] 24)) false none 0 0 0 24 (g := w.heap.size + 1) (by simp)
  have hA := fun w' (hb : Below w.heap.size w w') => dNorm_any (!s) e (hT.below hb) (h1.below hb) hl
  simp only [hO] at hA
  clear hO hT h1 hl
  go_enter Tryz.func51, Tryz.ntmps51
  go_wp2_with fail
  refine (hA _ (by repeat' (first | exact Below.refl _ _ | refine below_alloc ?_ _))).mono ?_
  rintro x w1 ⟨a1, n1, c1, rfl, N1, hb⟩
  have R1 := R0.below hb
  have hB := below_step (w0 := w) (by (repeat' (first | exact Below.refl _ _ | assumption | (refine below_alloc ?_ _) | (refine Below.setCell ?_ ?_ _) | (refine Below.drew ?_) | (refine below_drewN ?_ _))) <;> (first | (simp; done) | (simp; omega) | omega)) hb
  obtain ⟨r0, r1, r2, g0, g1, g2⟩ := id R1
  clear hA R0
  go_wp2_with fail
  exact bodyPost_ret (v := .tuple #[.agg #[.bool R.s, .slice a1 n1 c1, .int .i64 R.e], .int .i64 r]) (by simp [results, Tryz.results51, go_sem, r0, r1, r2, g0, g1, g2]) rfl ⟨a1, n1, c1, rfl, Num.fill R1 N1 .., by (repeat' (first | exact Below.refl _ _ | assumption | (refine below_alloc ?_ _) | (refine Below.setCell ?_ ?_ _) | (refine Below.drew ?_) | (refine below_drewN ?_ _))) <;> (first | (simp; done) | (simp; omega) | omega)⟩

set_option maxHeartbeats 1000000 in
theorem dAbs_any (s : Bool) (e : Int) (R : Dy) (r : Int) (hT : Tab w) (h1 : Num w a n c l) (hl : l.length ≤ 4000) (hO : normO ⟨false, valL l, e⟩ = (R, r)) :
    Calls Tryz.prog 52 #[.agg #[.bool s, .slice a n c, .int .i64 e]] w fun x w' => ∃ a' n' c', x = .returned (.tuple #[.agg #[.bool R.s, .slice a' n' c', .int .i64 R.e], .int .i64 r]) ∧ Num w' a' n' c' (limbs R.m) ∧ Below w.heap.size w w' := by
  have R0 := Boxed3.new (w.alloc (.cells #[.bool (false), .slice a n c, .int .i64 e] 24)) false none 0 0 0 24 (g := w.heap.size + 1) (by simp)
  have hA := fun w' (hb : Below w.heap.size w w') => dNorm_any (false) e (hT.below hb) (h1.below hb) hl
  simp only [hO] at hA
  clear hO hT h1 hl
  go_enter Tryz.func52, Tryz.ntmps52
  go_wp2_with fail
  refine (hA _ (by repeat' (first | exact Below.refl _ _ | refine below_alloc ?_ _))).mono ?_
  rintro x w1 ⟨a1, n1, c1, rfl, N1, hb⟩
  have R1 := R0.below hb
  have hB := below_step (w0 := w) (by (repeat' (first | exact Below.refl _ _ | assumption | (refine below_alloc ?_ _) | (refine Below.setCell ?_ ?_ _) | (refine Below.drew ?_) | (refine below_drewN ?_ _))) <;> (first | (simp; done) | (simp; omega) | omega)) hb
  obtain ⟨r0, r1, r2, g0, g1, g2⟩ := id R1
  clear hA R0
  go_wp2_with fail
  exact bodyPost_ret (v := .tuple #[.agg #[.bool R.s, .slice a1 n1 c1, .int .i64 R.e], .int .i64 r]) (by simp [results, Tryz.results52, go_sem, r0, r1, r2, g0, g1, g2]) rfl ⟨a1, n1, c1, rfl, Num.fill R1 N1 .., by (repeat' (first | exact Below.refl _ _ | assumption | (refine below_alloc ?_ _) | (refine Below.setCell ?_ ?_ _) | (refine Below.drew ?_) | (refine below_drewN ?_ _))) <;> (first | (simp; done) | (simp; omega) | omega)⟩

set_option maxHeartbeats 1000000 in
theorem dHalf_any (e : Int) (hm : mayE e) :
    Calls Tryz.prog 32 #[.int .i64 e] w fun x w' => ∃ a' n' c', x = .returned (.tuple #[.agg #[.bool false, .slice a' n' c', .int .i64 e], .int .i64 0]) ∧ Num w' a' n' c' (limbs 1) ∧ Below w.heap.size w w' := by
  have R0 := Boxed3.new w false none 0 0 0 24 (g := w.heap.size) rfl
  have hW := fun w => within_any e w
  simp only [decide_eq_true hm] at hW
  have hN := fun w => nof_any 1 w (by decide)
  clear hm
  go_enter Tryz.func32, Tryz.ntmps32
  go_wp2_with fail
  refine (hW _).mono ?_
  rintro x w' ⟨rfl, rfl⟩
  go_wp2_with fail
  refine (hN _).mono ?_
  rintro x w1 ⟨a1, c1, rfl, N1, hb⟩
  have R1 := R0.below hb
  have hB := below_step (w0 := w) (by (repeat' (first | exact Below.refl _ _ | assumption | (refine below_alloc ?_ _) | (refine Below.setCell ?_ ?_ _) | (refine Below.drew ?_) | (refine below_drewN ?_ _))) <;> (first | (simp; done) | (simp; omega) | omega)) hb
  obtain ⟨r0, r1, r2, g0, g1, g2⟩ := id R1
  clear hN hW R0
  go_wp2_with fail
  exact bodyPost_ret (v := .tuple #[.agg #[.bool false, .slice a1 (limbs 1).length c1, .int .i64 e], .int .i64 0]) (by simp [results, Tryz.results32, go_sem, r0, r1, r2, g0, g1, g2]) rfl ⟨a1, _, c1, rfl, Num.fill R1 ⟨rfl, N1⟩ .., by (repeat' (first | exact Below.refl _ _ | assumption | (refine below_alloc ?_ _) | (refine Below.setCell ?_ ?_ _) | (refine Below.drew ?_) | (refine below_drewN ?_ _))) <;> (first | (simp; done) | (simp; omega) | omega)⟩
theorem dHalf_bad (e : Int) (hm : ¬ mayE e) :
    Calls Tryz.prog 32 #[.int .i64 e] w fun x w' => x = .returned (.tuple #[.agg #[.bool false, .slice none 0 0, .int .i64 0], .int .i64 3]) ∧ Below w.heap.size w w' := by
  have hW := fun w => within_any e w
  simp only [decide_eq_false hm] at hW
  clear hm
  go_enter Tryz.func32, Tryz.ntmps32
  go_wp2_with fail
  refine (hW _).mono ?_
  rintro x w' ⟨rfl, rfl⟩
  go_wp2_with fail
  exact bodyPost_ret (v := .tuple #[.agg #[.bool false, .slice none 0 0, .int .i64 0], .int .i64 3]) (by simp [results, Tryz.results32, go_sem]) rfl ⟨rfl, by (repeat' (first | exact Below.refl _ _ | assumption | (refine below_alloc ?_ _) | (refine Below.setCell ?_ ?_ _) | (refine Below.drew ?_) | (refine below_drewN ?_ _))) <;> (first | (simp; done) | (simp; omega) | omega)⟩

set_option maxHeartbeats 1000000 in
theorem dWhole_any (x : Int) (h0 : -9223372036854775808 ≤ x) (h1 : x ≤ 9223372036854775807) (hT : Tab w) :
    Calls Tryz.prog 34 #[.int .i64 x] w fun z w' => ∃ a' n' c', z = .returned (.agg #[.bool (nrm ⟨decide (x < 0), x.natAbs, 0⟩).s, .slice a' n' c', .int .i64 (nrm ⟨decide (x < 0), x.natAbs, 0⟩).e]) ∧ Num w' a' n' c' (limbs (nrm ⟨decide (x < 0), x.natAbs, 0⟩).m) ∧ Below w.heap.size w w' := by
  have R0 := Boxed3.new w false none 0 0 0 24 (g := w.heap.size) rfl
  obtain ⟨M, hM⟩ : ∃ M, x.natAbs = M := ⟨_, rfl⟩
  have hM1 : M < 18446744073709551616 := by omega
  have hN := fun w => nof_any M w hM1
  have hlen : (limbs M).length ≤ 4000 := by
    by_cases h : M = 0
    · rw [h, limbs_zero]; simp
    · rw [limbs_one h hM1]; simp
  obtain ⟨B, hB⟩ : ∃ B, decide (x < 0) = B := ⟨_, rfl⟩
  have hD := fun w' a' n' c' (hb : Below w.heap.size w w') (hn : Num w' a' n' c' (limbs M)) => dnorm_any B 0 (hT.below hb) hn hlen (by omega) (by omega)
  simp only [valL_limbs] at hD
  rw [hM, hB]
  obtain ⟨X, hX⟩ : ∃ X, nrm ⟨B, M, 0⟩ = X := ⟨_, rfl⟩
  simp only [hX] at hD ⊢
  clear hX hT hlen
  have e1 : x < 0 → IntKind.u64.wrap (-(IntKind.u64.wrap x)) = (M : Int) := by intro h; rw [IntKind.wrap_u64, IntKind.wrap_u64]; omega
  have e2 : ¬ x < 0 → IntKind.u64.wrap x = (M : Int) := by intro h; rw [IntKind.wrap_u64]; omega
  by_cases hx : x < 0
  · have e1 := e1 hx
    clear e2
    obtain rfl : true = B := by rw [← hB]; exact (decide_eq_true hx).symm
    have hx' : decide (x < 0) = true := decide_eq_true hx
    clear hM hM1 hB
    go_enter Tryz.func34, Tryz.ntmps34
    go_wp2_with fail
    refine (hN _).mono ?_
    rintro z w1 ⟨a1, c1, rfl, N1, hb⟩
    have R1 := R0.below hb
    have hB1 := below_step (w0 := w) (by (repeat' (first | exact Below.refl _ _ | assumption | (refine below_alloc ?_ _) | (refine Below.setCell ?_ ?_ _) | (refine Below.drew ?_) | (refine below_drewN ?_ _))) <;> (first | (simp; done) | (simp; omega) | omega)) hb
    have hD1 := hD _ _ _ _ hB1 ⟨rfl, N1⟩
    clear hN R0 hD N1 hb
    go_wp2_with fail
    refine hD1.mono ?_
    rintro z w2 ⟨a2, n2, c2, rfl, N2, hb⟩
    have R2 := R1.below hb
    have hB2 := below_step hB1 hb
    obtain ⟨r0, r1, r2, g0, g1, g2⟩ := id R2
    clear hD1 R1 hB1 hb
    go_wp2_with fail
    exact bodyPost_ret (v := .agg #[.bool X.s, .slice a2 n2 c2, .int .i64 X.e]) (by simp [results, Tryz.results34, go_sem, r0, r1, r2, g0, g1, g2]) rfl ⟨a2, n2, c2, rfl, Num.fill R2 N2 .., by (repeat' (first | exact Below.refl _ _ | assumption | (refine below_alloc ?_ _) | (refine Below.setCell ?_ ?_ _) | (refine Below.drew ?_) | (refine below_drewN ?_ _))) <;> (first | (simp; done) | (simp; omega) | omega)⟩
  · have e2 := e2 hx
    clear e1
    obtain rfl : false = B := by rw [← hB]; exact (decide_eq_false hx).symm
    have hx' : decide (x < 0) = false := decide_eq_false hx
    clear hM hM1 hB
    go_enter Tryz.func34, Tryz.ntmps34
    go_wp2_with fail
    refine (hN _).mono ?_
    rintro z w1 ⟨a1, c1, rfl, N1, hb⟩
    have R1 := R0.below hb
    have hB1 := below_step (w0 := w) (by (repeat' (first | exact Below.refl _ _ | assumption | (refine below_alloc ?_ _) | (refine Below.setCell ?_ ?_ _) | (refine Below.drew ?_) | (refine below_drewN ?_ _))) <;> (first | (simp; done) | (simp; omega) | omega)) hb
    have hD1 := hD _ _ _ _ hB1 ⟨rfl, N1⟩
    clear hN R0 hD N1 hb
    go_wp2_with fail
    refine hD1.mono ?_
    rintro z w2 ⟨a2, n2, c2, rfl, N2, hb⟩
    have R2 := R1.below hb
    have hB2 := below_step hB1 hb
    obtain ⟨r0, r1, r2, g0, g1, g2⟩ := id R2
    clear hD1 R1 hB1 hb
    go_wp2_with fail
    exact bodyPost_ret (v := .agg #[.bool X.s, .slice a2 n2 c2, .int .i64 X.e]) (by simp [results, Tryz.results34, go_sem, r0, r1, r2, g0, g1, g2]) rfl ⟨a2, n2, c2, rfl, Num.fill R2 N2 .., by (repeat' (first | exact Below.refl _ _ | assumption | (refine below_alloc ?_ _) | (refine Below.setCell ?_ ?_ _) | (refine Below.drew ?_) | (refine below_drewN ?_ _))) <;> (first | (simp; done) | (simp; omega) | omega)⟩
end
end Go.Proofs.YtjlaadadbpffdaaGreatDoor
