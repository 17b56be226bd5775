/-
  The law package of layer 3: of, half, text, float, num; the reference's Same.
-/
import Derived.Test.YtjlaadadbpffdaaGreatDoorDyJ
set_option linter.unusedSimpArgs false
set_option linter.unusedVariables false
namespace Go.Plumb
open Go.RowKit
end Go.Plumb
namespace Go.Proofs.YtjlaadadbpffdaaGreatDoor
open Go.RowKit Go.Plumb
section
variable {w : World} {a b : Option Addr} {n c m d : Nat} {l k : List Nat}
theorem num3_any (e : Int) (w : World) : Calls Tryz.prog 28 #[.int .i64 e] w fun x w' => x = .returned (.int .i64 e) ∧ w = w' := by
  go_enter Tryz.func28, Tryz.ntmps28
  go_wp2_with fail
  go_ret
  exact ⟨rfl, rfl⟩
set_option maxHeartbeats 1000000 in
theorem lof_any (x : Nat) (hx : x < 18446744073709551616) (hc : classI (x : Int) ≤ 3) (hT : Tab w) :
    Calls Tryz.prog 44 #[.float .f64 x] w fun z w' => ∃ a' n' c', z = .returned (.agg #[.bool (nrm (dyW x)).s, .slice a' n' c', .int .i64 (nrm (dyW x)).e]) ∧ Num w' a' n' c' (limbs (nrm (dyW x)).m) ∧ Below w.heap.size w w' := by
  have R0 := Boxed3.new w false none 0 0 0 24 (g := w.heap.size) rfl
  have hO := fun w' (hb : Below w.heap.size w w') => dOf_any x hx hc (hT.below hb)
  obtain ⟨Y, hY⟩ : ∃ Y, nrm (dyW x) = Y := ⟨_, rfl⟩
  simp only [hY] at hO ⊢
  clear hY hT hc hx
  go_enter Tryz.func44, Tryz.ntmps44
  go_wp2_with fail
  refine (hO _ (by repeat' (first | exact Below.refl _ _ | refine below_alloc ?_ _))).mono ?_
  rintro z w1 ⟨a1, n1, c1, rfl, N1, hb⟩
  have R1 := (R0.below hb).alloc (.cells #[.bool Y.s, .slice a1 n1 c1, .int .i64 Y.e] 24)
  have hB1 := below_step (w0 := w) (by (repeat' (first | exact Below.refl _ _ | assumption | (refine below_alloc ?_ _) | (refine Below.setCell ?_ ?_ _) | (refine Below.drew ?_) | (refine below_drewN ?_ _))) <;> (first | (simp; done) | (simp; omega) | omega)) hb
  have N2 := N1.below (w' := w1.alloc (.cells #[.bool Y.s, .slice a1 n1 c1, .int .i64 Y.e] 24)) (below_alloc (Below.refl _ _) _)
  obtain ⟨r0, r1, r2, g0, g1, g2⟩ := id R1
  clear hO R0 hb
  go_wp2_with fail
  exact bodyPost_ret (v := .agg #[.bool Y.s, .slice a1 n1 c1, .int .i64 Y.e]) (by simp [results, Tryz.results44, go_sem, r0, r1, r2, g0, g1, g2]) rfl ⟨a1, n1, c1, rfl, Num.fill R1 N2 .., by (repeat' (first | exact Below.refl _ _ | assumption | (refine below_alloc ?_ _) | (refine Below.setCell ?_ ?_ _) | (refine Below.drew ?_) | (refine below_drewN ?_ _))) <;> (first | (simp; done) | (simp; omega) | omega)⟩
set_option maxHeartbeats 1000000 in
theorem lhalf_any (e : Int) (hm : mayE e) :
    Calls Tryz.prog 59 #[.int .i64 e] w fun z w' => ∃ a' n' c', z = .returned (.agg #[.bool false, .slice a' n' c', .int .i64 e]) ∧ Num w' a' n' c' (limbs 1) ∧ Below w.heap.size w w' := by
  have R0 := Boxed3.new w false none 0 0 0 24 (g := w.heap.size) rfl
  have hO := fun w => dHalf_any (w := w) e hm
  clear hm
  go_enter Tryz.func59, Tryz.ntmps59
  go_wp2_with fail
  refine (hO _).mono ?_
  rintro z w1 ⟨a1, n1, c1, rfl, N1, hb⟩
  have R1 := (R0.below hb).alloc (.cells #[.bool false, .slice a1 n1 c1, .int .i64 e] 24)
  have hB1 := below_step (w0 := w) (by (repeat' (first | exact Below.refl _ _ | assumption | (refine below_alloc ?_ _) | (refine Below.setCell ?_ ?_ _) | (refine Below.drew ?_) | (refine below_drewN ?_ _))) <;> (first | (simp; done) | (simp; omega) | omega)) hb
  have N2 := N1.below (w' := w1.alloc (.cells #[.bool false, .slice a1 n1 c1, .int .i64 e] 24)) (below_alloc (Below.refl _ _) _)
  obtain ⟨r0, r1, r2, g0, g1, g2⟩ := id R1
  clear hO R0 hb
  go_wp2_with fail
  exact bodyPost_ret (v := .agg #[.bool false, .slice a1 n1 c1, .int .i64 e]) (by simp [results, Tryz.results59, go_sem, r0, r1, r2, g0, g1, g2]) rfl ⟨a1, n1, c1, rfl, Num.fill R1 N2 .., by (repeat' (first | exact Below.refl _ _ | assumption | (refine below_alloc ?_ _) | (refine Below.setCell ?_ ?_ _) | (refine Below.drew ?_) | (refine below_drewN ?_ _))) <;> (first | (simp; done) | (simp; omega) | omega)⟩
set_option maxHeartbeats 1000000 in
theorem ltext_any (s : Bool) (e : Int) (W : ByteArray) (hT : Tab w) (hQ : PowT Tryz.prog w) (h1 : Num w a n c l) (hl : l.length ≤ 1000) (hm : mayE e) (hTl : (textN (nrm ⟨s, valL l, e⟩).m).length ≤ 1000000) (hIl : (Lib.itoa (nrm ⟨s, valL l, e⟩).e).length ≤ 1000)
    (hW : (⟨(textD (nrm ⟨s, valL l, e⟩).s (nrm ⟨s, valL l, e⟩).m (nrm ⟨s, valL l, e⟩).e).toArray⟩ : ByteArray) = W) :
    Calls Tryz.prog 98 #[.agg #[.bool s, .slice a n c, .int .i64 e], .int .i64 0, .string W] w fun z w' => z = .returned (.bool true) ∧ Below w.heap.size w w' := by
  have hO := fun w' (hb : Below w.heap.size w w') => dText_any s e (hT.below hb) (PowT_below hQ hb) (h1.below hb) hl hm hTl hIl
  have hN := fun w => num3_any 0 w
  simp only [hW] at hO
  clear hW hT hQ h1 hTl hIl hl hm
  go_enter Tryz.func98, Tryz.ntmps98
  go_wp2_with fail
  refine (hO _ (by repeat' (first | exact Below.refl _ _ | refine below_alloc ?_ _))).mono ?_
  rintro z w1 ⟨rfl, hb⟩
  go_wp2_with (go_at_call 28; refine (hN _).mono ?_; rintro e w' ⟨rfl, rfl⟩)
  go_ret
  exact ⟨rfl, below_step (by (repeat' (first | exact Below.refl _ _ | assumption | (refine below_alloc ?_ _) | (refine Below.setCell ?_ ?_ _) | (refine Below.drew ?_) | (refine below_drewN ?_ _))) <;> (first | (simp; done) | (simp; omega) | omega)) hb⟩
set_option maxHeartbeats 1000000 in
theorem lfloat_any (s : Bool) (e : Int) (W : Nat) (hT : Tab w) (h1 : Num w a n c l) (hl : l.length ≤ 4000) (hm : mayE e) (hW : rndD (nrm ⟨s, valL l, e⟩) = W) :
    Calls Tryz.prog 61 #[.agg #[.bool s, .slice a n c, .int .i64 e], .int .i64 0, .float .f64 W] w fun z w' => z = .returned (.bool true) ∧ Below w.heap.size w w' := by
  have hO := fun w' (hb : Below w.heap.size w w') => dFloat_any s e (hT.below hb) (h1.below hb) hl hm
  have hN := fun w => num3_any 0 w
  have hr := run_bits
  simp only [hW] at hO
  clear hW hT h1 hl hm
  go_enter Tryz.func61, Tryz.ntmps61
  go_wp2_with fail
  refine (hO _ (by repeat' (first | exact Below.refl _ _ | refine below_alloc ?_ _))).mono ?_
  rintro z w1 ⟨rfl, hb⟩
  go_wp2_with (go_at_call 28; refine (hN _).mono ?_; rintro e w' ⟨rfl, rfl⟩)
  all_goals go_ret
  all_goals exact ⟨by simp, below_step (by (repeat' (first | exact Below.refl _ _ | assumption | (refine below_alloc ?_ _) | (refine Below.setCell ?_ ?_ _) | (refine Below.drew ?_) | (refine below_drewN ?_ _))) <;> (first | (simp; done) | (simp; omega) | omega)) hb⟩
set_option maxHeartbeats 1000000 in
theorem rsame3_any (s : Bool) (e : Int) (h1 : Num w a n c l) (h2 : Num w b m d k) (hlk : l = k) (hl : l.length ≤ 10000) :
    Calls Tryz.prog 27 #[.agg #[.bool s, .slice a n c, .int .i64 e], .agg #[.bool s, .slice b m d, .int .i64 e]] w fun z w' => z = .returned (.bool true) ∧ Below w.heap.size w w' := by
  have hS := fun w' (hb : Below w.heap.size w w') => same_n (h1.below hb) (h2.below hb) hlk hl
  have X0 := (Boxed3.new w s a n c e 24 rfl).alloc (.cells #[.bool s, .slice b m d, .int .i64 e] 24)
  have Y0 := Boxed3.new (w.alloc (.cells #[.bool s, .slice a n c, .int .i64 e] 24)) s b m d e 24 (g := w.heap.size + 1) (by simp)
  clear h1 h2 hlk hl
  have hss : (s == s) = true := by simp
  have hee : (e == e) = true := by simp
  go_enter Tryz.func27, Tryz.ntmps27
  go_wp2_with fail
  refine (hS _ (by repeat' (first | exact Below.refl _ _ | refine below_alloc ?_ _))).mono ?_
  rintro z w1 ⟨rfl, hb⟩
  have X1 := X0.below hb
  have Y1 := Y0.below hb
  have hB := below_step (w0 := w) (by (repeat' (first | exact Below.refl _ _ | assumption | (refine below_alloc ?_ _) | (refine Below.setCell ?_ ?_ _) | (refine Below.drew ?_) | (refine below_drewN ?_ _))) <;> (first | (simp; done) | (simp; omega) | omega)) hb
  obtain ⟨x0, x1, x2, _, _, _⟩ := id X1
  obtain ⟨y0, y1, y2, _, _, _⟩ := id Y1
  clear hS hb X0 Y0
  go_wp2_with fail
  all_goals go_ret
  all_goals exact ⟨by simp, hB⟩
end
end Go.Proofs.YtjlaadadbpffdaaGreatDoor
