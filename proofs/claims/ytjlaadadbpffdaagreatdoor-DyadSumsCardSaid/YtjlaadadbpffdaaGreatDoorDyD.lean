/-
  dyad: Mul, Half, Of, Neg, Abs.
-/
import Derived.Test.YtjlaadadbpffdaaGreatDoorDyC
set_option linter.unusedSimpArgs false
set_option linter.unusedVariables false
namespace Go.Plumb
open Go.RowKit
theorem three_boxes (w : World) (s s' : Bool) (a b : Option Addr) (n c m d : Nat) (e e' : Int) (t : TypeId) :
    Boxed3 (((w.alloc (.cells #[.bool s, .slice a n c, .int .i64 e] t)).alloc (.cells #[.bool s', .slice b m d, .int .i64 e'] t)).alloc (.cells #[.bool false, .slice none 0 0, .int .i64 0] t)) w.heap.size s a n c e
    ∧ Boxed3 (((w.alloc (.cells #[.bool s, .slice a n c, .int .i64 e] t)).alloc (.cells #[.bool s', .slice b m d, .int .i64 e'] t)).alloc (.cells #[.bool false, .slice none 0 0, .int .i64 0] t)) (w.heap.size + 1) s' b m d e'
    ∧ Boxed3 (((w.alloc (.cells #[.bool s, .slice a n c, .int .i64 e] t)).alloc (.cells #[.bool s', .slice b m d, .int .i64 e'] t)).alloc (.cells #[.bool false, .slice none 0 0, .int .i64 0] t)) (w.heap.size + 1 + 1) false none 0 0 0 :=
  ⟨((Boxed3.new w s a n c e t rfl).alloc _).alloc _, (Boxed3.new _ s' b m d e' t (by simp)).alloc _, Boxed3.new _ false none 0 0 0 t (by simp)⟩
end Go.Plumb
namespace Go.Proofs.YtjlaadadbpffdaaGreatDoor
open Go.RowKit Go.Plumb

section
variable {w : World} {a b : Option Addr} {n c m d : Nat} {l k : List Nat}
set_option maxHeartbeats 2000000 in
theorem dMul_any (s s' : Bool) (e e' : Int) (R : Dy) (r : Int) (hT : Tab w) (h1 : Num w a n c l) (h2 : Num w b m d k) (hl : l.length + k.length ≤ 4000) (hO : mulO ⟨s, valL l, e⟩ ⟨s', valL k, e'⟩ = (R, r)) :
    Calls Tryz.prog 42 #[.agg #[.bool s, .slice a n c, .int .i64 e], .agg #[.bool s', .slice b m d, .int .i64 e']] w fun x w' => ∃ a' n' c', x = .returned (.tuple #[.agg #[.bool R.s, .slice a' n' c', .int .i64 R.e], .int .i64 r]) ∧ Num w' a' n' c' (limbs R.m) ∧ Below w.heap.size w w' := by
  obtain ⟨X0, Y0, R0⟩ := three_boxes w s s' a b n c m d e e' 24
  unfold mulO at hO
  by_cases hm : mayE e
  · by_cases hm' : mayE e'
    · rw [if_pos ⟨hm, hm'⟩] at hO
      have hP := fun g w' (hb : Below w.heap.size w w') (hp) (hp') (hx) (hx') (hg) (hg') => dopen2 (w.heap.size) g w.heap.size (w.heap.size + 1) s s' a b n c m d l k e e' w' (Nat.le_refl _) (Nat.le_succ _) hb.size hg hg' (by omega) (by omega) hp hp' hx hx' (h1.below hb) (h2.below hb) (fun w'' hb' => hT.below (hb.trans hb')) (by omega) (by omega) hm hm'
      have hb0 := nrm_e_may (s := s) h1.limbs (by omega) hm
      have hb0' := nrm_e_may (s := s') h2.limbs (by omega) hm'
      have hb1 := nrm_len (s := s) (e := e) h1.limbs
      have hb1' := nrm_len (s := s') (e := e') h2.limbs
      obtain ⟨X, hX⟩ : ∃ X, nrm ⟨s, valL l, e⟩ = X := ⟨_, rfl⟩
      obtain ⟨Y, hY⟩ : ∃ Y, nrm ⟨s', valL k, e'⟩ = Y := ⟨_, rfl⟩
      simp only [hX, hY] at hP hb0 hb0' hb1 hb1' hO
      obtain ⟨xs, xm, xe⟩ := X
      obtain ⟨ys, ym, ye⟩ := Y
      simp only at hP hb0 hb0' hb1 hb1'
      have hlm : (limbs (xm * ym)).length ≤ 4000 := by
        have := len_mul (limbs_limbs xm) (limbs_limbs ym)
        rw [valL_limbs, valL_limbs] at this
        omega
      have hD := fun w' a' n' c' (hb : Below w.heap.size w w') (hn : Num w' a' n' c' (limbs (xm * ym))) => ddone_any (xs != ys) (xe + ye) (hT.below hb) hn hlm (by omega) (by omega)
      have hlen : (limbs xm).length + (limbs ym).length ≤ 4000 := by omega
      simp only [valL_limbs] at hD
      have hO' : doneO ⟨xs != ys, xm * ym, xe + ye⟩ = (R, r) := hO
      simp only [hO'] at hD
      clear hX hY hO hO' hT hm hm' h1 h2 hlm hb1 hb1' hl
      obtain ⟨zs, zm, ze⟩ := R
      simp only at hD ⊢
      go_enter Tryz.func42, Tryz.ntmps42
      go_wp2_with fail
      refine (hP _ _ (by repeat' (first | exact Below.refl _ _ | refine below_alloc ?_ _)) (by simp [go_sem]) (by simp [go_sem]) (X0.alloc _) (Y0.alloc _) (by omega) (by omega)).mono ?_
      rintro x w1 ⟨a1, n1, c1, a2, n2, c2, rfl, X1, N1, Y1, N2, hB1, A1⟩
      have R1 := (R0.alloc _).apart A1 (by omega) (by omega)
      have hB2 : Below w.heap.size w w1 := Below.trans (by repeat' (first | exact Below.refl _ _ | refine below_alloc ?_ _)) hB1
      have HN1 := Lib.hid N1
      have HN2 := Lib.hid N2
      clear hP X0 Y0 R0 A1 hB1 N1 N2
      obtain ⟨x0, x1, x2, _, _, _⟩ := id X1
      obtain ⟨y0, y1, y2, _, _, _⟩ := id Y1
      go_wp2_with fail
      refine (mul_n (xm * ym) HN1.out HN2.out (by rw [valL_limbs, valL_limbs]) hlen).mono ?_
      rintro x w2 ⟨a3, n3, c3, rfl, N3, hb2⟩
      have X2 := X1.below hb2
      have Y2 := Y1.below hb2
      have R2 := R1.below hb2
      have hB3 := below_step hB2 hb2
      have hD1 := hD _ _ _ _ hB3 N3
      clear hD hb2 X1 Y1 R1 HN1 HN2 hB2 N3 x0 x1 x2 y0 y1 y2
      obtain ⟨x0, x1, x2, _, _, _⟩ := id X2
      obtain ⟨y0, y1, y2, _, _, _⟩ := id Y2
      go_wp2_with fail
      refine hD1.mono ?_
      rintro x w3 ⟨a4, n4, c4, rfl, N4, hb3⟩
      have R3 := R2.below hb3
      have hB4 := below_step hB3 hb3
      obtain ⟨r0, r1, r2, g0, g1, g2⟩ := id R3
      clear hb3 hD1 X2 Y2 R2 hB3 x0 x1 x2 y0 y1 y2
      go_wp2_with fail
      exact bodyPost_ret (v := .tuple #[.agg #[.bool zs, .slice a4 n4 c4, .int .i64 ze], .int .i64 r]) (by simp [results, Tryz.results42, go_sem, r0, r1, r2, g0, g1, g2]) rfl ⟨a4, n4, c4, rfl, Num.fill R3 N4 .., by (repeat' (first | exact Below.refl _ _ | assumption | (refine below_alloc ?_ _) | (refine Below.setCell ?_ ?_ _) | (refine Below.drew ?_) | (refine below_drewN ?_ _))) <;> (first | (simp; done) | (simp; omega) | omega)⟩
    · rw [if_neg (fun h => hm' h.2)] at hO
      obtain ⟨rfl, rfl⟩ : zeroD = R ∧ 2 = r := ⟨congrArg Prod.fst hO, congrArg Prod.snd hO⟩
      have hP := fun g w' (hb : Below w.heap.size w w') (hp) (hp') (hx) (hx') (hg) (hg') => dopen2_bad (w.heap.size) g w.heap.size (w.heap.size + 1) s s' a b n c m d l k e e' w' (Nat.le_refl _) (Nat.le_succ _) hb.size hg hg' (by omega) (by omega) hp hp' hx hx' (h1.below hb) (h2.below hb) (fun w'' hb' => hT.below (hb.trans hb')) (by omega) (by omega) hm hm'
      clear hO hT hm hm' h1 h2 hl
      go_enter Tryz.func42, Tryz.ntmps42
      go_wp2_with fail
      refine (hP _ _ (by repeat' (first | exact Below.refl _ _ | refine below_alloc ?_ _)) (by simp [go_sem]) (by simp [go_sem]) (X0.alloc _) (Y0.alloc _) (by omega) (by omega)).mono ?_
      rintro x w1 ⟨rfl, hB1, A1⟩
      have R1 := (R0.alloc _).apart A1 (by omega) (by omega)
      have hB2 : Below w.heap.size w w1 := Below.trans (by repeat' (first | exact Below.refl _ _ | refine below_alloc ?_ _)) hB1
      obtain ⟨r0, r1, r2, g0, g1, g2⟩ := id R1
      clear hP X0 Y0 R0 A1 hB1
      go_wp2_with fail
      exact bodyPost_ret (v := .tuple #[.agg #[.bool false, .slice none 0 0, .int .i64 0], .int .i64 2]) (by simp [results, Tryz.results42, go_sem, r0, r1, r2, g0, g1, g2]) rfl ⟨none, 0, 0, rfl, (by show Num _ _ _ _ (limbs 0); rw [limbs_zero]; exact Num.nil _), by (repeat' (first | exact Below.refl _ _ | assumption | (refine below_alloc ?_ _) | (refine Below.setCell ?_ ?_ _) | (refine Below.drew ?_) | (refine below_drewN ?_ _))) <;> (first | (simp; done) | (simp; omega) | omega)⟩
  · rw [if_neg (fun h => hm h.1)] at hO
    obtain ⟨rfl, rfl⟩ : zeroD = R ∧ 2 = r := ⟨congrArg Prod.fst hO, congrArg Prod.snd hO⟩
    have hP := fun g w' (hb : Below w.heap.size w w') (hp) (hx) (hg) => dopen1_bad g w.heap.size 2 (by omega) (by omega) s a n c l e w' hg hp hx (h1.below hb) (by omega) hm
    clear hO hT hm h1 h2 hl
    go_enter Tryz.func42, Tryz.ntmps42
    go_wp2_with fail
    refine (hP _ _ (by repeat' (first | exact Below.refl _ _ | refine below_alloc ?_ _)) (by simp [go_sem]) (X0.alloc _) (by omega)).mono ?_
    rintro x w1 ⟨rfl, hb1⟩
    have R1 := (R0.alloc _).below hb1
    have hB1 := below_step (w0 := w) (by (repeat' (first | exact Below.refl _ _ | assumption | (refine below_alloc ?_ _) | (refine Below.setCell ?_ ?_ _) | (refine Below.drew ?_) | (refine below_drewN ?_ _))) <;> (first | (simp; done) | (simp; omega) | omega)) hb1
    obtain ⟨r0, r1, r2, g0, g1, g2⟩ := id R1
    clear hP X0 Y0 R0
    go_wp2_with fail
    exact bodyPost_ret (v := .tuple #[.agg #[.bool false, .slice none 0 0, .int .i64 0], .int .i64 2]) (by simp [results, Tryz.results42, go_sem, r0, r1, r2, g0, g1, g2]) rfl ⟨none, 0, 0, rfl, (by show Num _ _ _ _ (limbs 0); rw [limbs_zero]; exact Num.nil _), by (repeat' (first | exact Below.refl _ _ | assumption | (refine below_alloc ?_ _) | (refine Below.setCell ?_ ?_ _) | (refine Below.drew ?_) | (refine below_drewN ?_ _))) <;> (first | (simp; done) | (simp; omega) | omega)⟩
end
end Go.Proofs.YtjlaadadbpffdaaGreatDoor
