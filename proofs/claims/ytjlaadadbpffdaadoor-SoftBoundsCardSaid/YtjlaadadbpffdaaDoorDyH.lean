/-
  dyad: Shift, Of, Cmp.
-/
import Derived.Test.YtjlaadadbpffdaaDoorDyG
set_option linter.unusedSimpArgs false
set_option linter.unusedVariables false
namespace Go.Proofs.YtjlaadadbpffdaaDoor
open Go.RowKit Go.Plumb

section
variable {w : World} {a b : Option Addr} {n c m d : Nat} {l k : List Nat}
set_option maxHeartbeats 2000000 in
theorem dOf_any (x : Nat) (hx : x < 18446744073709551616) (hc : classI (x : Int) ≤ 3) (hT : Tab w) :
    Calls Tryd.prog 68 #[.float .f64 x] w fun z w' => ∃ a' n' c', z = .returned (.tuple #[.agg #[.bool (nrm (dyW x)).s, .slice a' n' c', .int .i64 (nrm (dyW x)).e], .int .i64 0]) ∧ Num w' a' n' c' (limbs (nrm (dyW x)).m) ∧ Below w.heap.size w w' := by
  have R0 := Boxed3.new w false none 0 0 0 37 (g := w.heap.size) rfl
  have hOf := fun w => of_any x w hx
  have ho : oneI (x : Int) = x := by unfold oneI; rw [if_neg (by omega)]
  rw [ho] at hOf
  have hPa := fun w => parts_any (x : Int) w (by omega) (by omega)
  have hpe : pErr (x : Int) = 0 := by unfold pErr; rw [if_pos hc]
  have hml := dyW_m_lt x
  have hel := dyW_e x
  have h1 : (dyW x).s = pNeg (x : Int) := rfl
  have h2 : ((dyW x).m : Int) = pMan (x : Int) := by have := pMan_ge (x : Int); show ((pMan (x : Int)).toNat : Int) = _; omega
  have h3 : (dyW x).e = pExp (x : Int) := rfl
  simp only [hpe, ← h1, ← h2, ← h3] at hPa
  obtain ⟨⟨xs, xm, xe⟩, hX⟩ : ∃ X, dyW x = X := ⟨_, rfl⟩
  simp only [hX] at hPa hml hel ⊢
  clear h1 h2 h3 hpe ho
  have hN := fun w => nof_any xm w (by omega)
  have hlen : (limbs xm).length ≤ 4000 := by
    by_cases h : xm = 0
    · rw [h, limbs_zero]; simp
    · rw [limbs_one h (by omega)]; simp
  have hD := fun w' a' n' c' (hb : Below w.heap.size w w') (hn : Num w' a' n' c' (limbs xm)) => dnorm_any xs xe (hT.below hb) hn hlen (by omega) (by omega)
  simp only [valL_limbs] at hD
  obtain ⟨Y, hY⟩ : ∃ Y, nrm ⟨xs, xm, xe⟩ = Y := ⟨_, rfl⟩
  simp only [hY] at hD ⊢
  have hxm : (xm : Int) < 18446744073709551616 := by omega
  clear hX hY hT hlen hml hc hx
  go_enter Tryd.func68, Tryd.ntmps68
  go_wp2_with fail
  refine (hOf _).mono ?_
  rintro z w' ⟨rfl, rfl⟩
  go_wp2_with fail
  refine (hPa _).mono ?_
  rintro z w1 ⟨rfl, hb⟩
  have R1 := R0.below hb
  have hB1 := below_step (w0 := w) (by (repeat' (first | exact Below.refl _ _ | assumption | (refine below_alloc ?_ _) | (refine Below.setCell ?_ ?_ _) | (refine Below.drew ?_) | (refine below_drewN ?_ _))) <;> (first | (simp; done) | (simp; omega) | omega)) hb
  obtain ⟨r0, r1, r2, g0, g1, g2⟩ := id R1
  clear hOf hPa hb R0
  go_wp2_with fail
  obtain ⟨W0, hW0⟩ : ∃ W0, w1.alloc (.cells #[.bool xs, .int .u64 (xm : Int), .int .i64 xe] 100) = W0 := ⟨_, rfl⟩
  have hB2 : Below w.heap.size w W0 := by rw [← hW0]; (repeat' (first | exact Below.refl _ _ | assumption | (refine below_alloc ?_ _) | (refine Below.setCell ?_ ?_ _) | (refine Below.drew ?_) | (refine below_drewN ?_ _))) <;> (first | (simp; done) | (simp; omega) | omega)
  have R2 : Boxed3 W0 w.heap.size false none 0 0 0 := by rw [← hW0]; exact R1.alloc _
  have p0 : W0.cell? ⟨w1.heap.size, 0, none⟩ = some (.bool xs) := by rw [← hW0]; simp [go_sem]
  have p1 : W0.cell? ⟨w1.heap.size, 1, none⟩ = some (.int .u64 (xm : Int)) := by rw [← hW0]; simp [go_sem]
  have p2 : W0.cell? ⟨w1.heap.size, 2, none⟩ = some (.int .i64 xe) := by rw [← hW0]; simp [go_sem]
  have hlt : w.heap.size < w1.heap.size := R1.lt
  rw [hW0]
  clear hW0 r0 r1 r2 g0 g1 g2 R1 hB1
  go_region_held3 (fun wx => Below w.heap.size w wx ∧ wx.cell? ⟨w1.heap.size, 0, none⟩ = some (.bool xs) ∧ wx.cell? ⟨w1.heap.size, 1, none⟩ = some (.int .u64 (xm : Int)) ∧ wx.cell? ⟨w1.heap.size, 2, none⟩ = some (.int .i64 xe))
    (((repeat' (refine And.intro ?_ ?_)) <;> first | assumption | exact Below.drew (by assumption) | ((repeat' (first | exact Below.refl _ _ | assumption | (refine below_alloc ?_ _) | (refine Below.setCell ?_ ?_ _) | (refine Below.drew ?_) | (refine below_drewN ?_ _))) <;> (first | (simp; done) | (simp; omega) | omega); done) | ((repeat (first | assumption | refine (World.cell?_setCell_far _ _ _ _ (by first | (simp; done) | (simp; omega))).trans ?_)); done)))
    ((first | (go_at_call 85; (with_reducible refine (hN _).mono ?_); rintro e w2 ⟨a1, c1, rfl, N1, hb⟩; have M1 : Num w2 a1 (limbs xm).length c1 (limbs xm) := ⟨rfl, N1⟩; have R3 := (R2.drew).below hb; have hB3 := below_step (w0 := w) (Below.drew hB2) hb; have q0 := (bcell hb).1 w1.heap.size 0 (cell_lt p0); have q1 := (bcell hb).1 w1.heap.size 1 (cell_lt p1); have q2 := (bcell hb).1 w1.heap.size 2 (cell_lt p2); replace p0 := q0.trans p0; replace p1 := q1.trans p1; replace p2 := q2.trans p2; clear q0 q1 q2 hb) | (go_at_call 89; (with_reducible refine (hD _ _ _ _ (by assumption) M1).mono ?_); rintro e w3 ⟨a2, n2, c2, rfl, N2, hb⟩; have R4 := R3.below hb; have hB4 := below_step (w0 := w) hB3 hb; have q0 := (bcell hb).1 w1.heap.size 0 (cell_lt p0); have q1 := (bcell hb).1 w1.heap.size 1 (cell_lt p1); have q2 := (bcell hb).1 w1.heap.size 2 (cell_lt p2); replace p0 := q0.trans p0; replace p1 := q1.trans p1; replace p2 := q2.trans p2; obtain ⟨r0, r1, r2, g0, g1, g2⟩ := id R4; clear q0 q1 q2 hb)))
  go_wp2_with fail
  exact bodyPost_ret (v := .tuple #[.agg #[.bool Y.s, .slice a2 n2 c2, .int .i64 Y.e], .int .i64 0]) (by simp [results, Tryd.results68, go_sem, r0, r1, r2, g0, g1, g2]) rfl ⟨a2, n2, c2, rfl, Num.fill R4 N2 .., by (repeat' (first | exact Below.refl _ _ | assumption | (refine below_alloc ?_ _) | (refine Below.setCell ?_ ?_ _) | (refine Below.drew ?_) | (refine below_drewN ?_ _))) <;> (first | (simp; done) | (simp; omega) | omega)⟩
end
end Go.Proofs.YtjlaadadbpffdaaDoor
