/-
  dyad: Add at every two, Sub, Neg, Abs, Shift, Half, Whole.
-/
import Derived.Test.YtjlaadadbpffdaaDoorDyF
set_option linter.unusedSimpArgs false
set_option linter.unusedVariables false
namespace Go.Plumb
open Go.RowKit
theorem limbs_o : limbs 1 = [1] := limbs_one (by decide) (by decide)
end Go.Plumb
namespace Go.Proofs.YtjlaadadbpffdaaDoor
open Go.RowKit Go.Plumb

section
variable {w : World} {a b : Option Addr} {n c m d : Nat} {l k : List Nat}
set_option maxHeartbeats 2000000 in
theorem dAdd_any (s s' : Bool) (e e' : Int) (R : Dy) (r : Int) (hT : Tab w) (h1 : Num w a n c l) (h2 : Num w b m d k) (hl : l.length + k.length ≤ 1000) (hnear : farD (nrm ⟨s, valL l, e⟩) (nrm ⟨s', valL k, e'⟩) ∨ nearD (nrm ⟨s, valL l, e⟩) (nrm ⟨s', valL k, e'⟩)) (hO : addO ⟨s, valL l, e⟩ ⟨s', valL k, e'⟩ = (R, r)) :
    Calls Tryd.prog 34 #[.agg #[.bool s, .slice a n c, .int .i64 e], .agg #[.bool s', .slice b m d, .int .i64 e']] w fun x w' => ∃ a' n' c', x = .returned (.tuple #[.agg #[.bool R.s, .slice a' n' c', .int .i64 R.e], .int .i64 r]) ∧ Num w' a' n' c' (limbs R.m) ∧ Below w.heap.size w w' := by
  obtain ⟨X0, Y0, R0⟩ := three_boxes w s s' a b n c m d e e' 37
  by_cases hm : mayE e
  · by_cases hm' : mayE e'
    · exact dAdd_ok s s' e e' R r hT h1 h2 hl hm hm' hnear hO
    · unfold addO at hO
      rw [if_neg (fun h => hm' h.2)] at hO
      obtain ⟨rfl, rfl⟩ : zeroD = R ∧ 2 = r := ⟨congrArg Prod.fst hO, congrArg Prod.snd hO⟩
      have hP := fun g w' (hb : Below w.heap.size w w') (hp) (hp') (hx) (hx') (hg) (hg') => dopen2_bad (w.heap.size) g w.heap.size (w.heap.size + 1) s s' a b n c m d l k e e' w' (Nat.le_refl _) (Nat.le_succ _) hb.size hg hg' (by omega) (by omega) hp hp' hx hx' (h1.below hb) (h2.below hb) (fun w'' hb' => hT.below (hb.trans hb')) (by omega) (by omega) hm hm'
      clear hO hT hm hm' h1 h2 hl hnear
      go_enter Tryd.func34, Tryd.ntmps34
      go_wp2_with fail
      refine (hP _ _ (by repeat' (first | exact Below.refl _ _ | refine below_alloc ?_ _)) (by simp [go_sem]) (by simp [go_sem]) (X0.alloc _) (Y0.alloc _) (by omega) (by omega)).mono ?_
      rintro x w1 ⟨rfl, hB1, A1⟩
      have R1 := (R0.alloc _).apart A1 (by omega) (by omega)
      have hB2 : Below w.heap.size w w1 := Below.trans (by repeat' (first | exact Below.refl _ _ | refine below_alloc ?_ _)) hB1
      obtain ⟨r0, r1, r2, g0, g1, g2⟩ := id R1
      clear hP X0 Y0 R0 A1 hB1
      go_wp2_with fail
      exact bodyPost_ret (v := .tuple #[.agg #[.bool false, .slice none 0 0, .int .i64 0], .int .i64 2]) (by simp [results, Tryd.results34, go_sem, r0, r1, r2, g0, g1, g2]) rfl ⟨none, 0, 0, rfl, (by show Num _ _ _ _ (limbs 0); rw [limbs_zero]; exact Num.nil _), by (repeat' (first | exact Below.refl _ _ | assumption | (refine below_alloc ?_ _) | (refine Below.setCell ?_ ?_ _) | (refine Below.drew ?_) | (refine below_drewN ?_ _))) <;> (first | (simp; done) | (simp; omega) | omega)⟩
  · unfold addO at hO
    rw [if_neg (fun h => hm h.1)] at hO
    obtain ⟨rfl, rfl⟩ : zeroD = R ∧ 2 = r := ⟨congrArg Prod.fst hO, congrArg Prod.snd hO⟩
    have hP := fun g w' (hb : Below w.heap.size w w') (hp) (hx) (hg) => dopen1_bad g w.heap.size 2 (by omega) (by omega) s a n c l e w' hg hp hx (h1.below hb) (by omega) hm
    clear hO hT hm h1 h2 hl hnear
    go_enter Tryd.func34, Tryd.ntmps34
    go_wp2_with fail
    refine (hP _ _ (by repeat' (first | exact Below.refl _ _ | refine below_alloc ?_ _)) (by simp [go_sem]) (X0.alloc _) (by omega)).mono ?_
    rintro x w1 ⟨rfl, hb1⟩
    have R1 := (R0.alloc _).below hb1
    have hB1 := below_step (w0 := w) (by (repeat' (first | exact Below.refl _ _ | assumption | (refine below_alloc ?_ _) | (refine Below.setCell ?_ ?_ _) | (refine Below.drew ?_) | (refine below_drewN ?_ _))) <;> (first | (simp; done) | (simp; omega) | omega)) hb1
    obtain ⟨r0, r1, r2, g0, g1, g2⟩ := id R1
    clear hP X0 Y0 R0
    go_wp2_with fail
    exact bodyPost_ret (v := .tuple #[.agg #[.bool false, .slice none 0 0, .int .i64 0], .int .i64 2]) (by simp [results, Tryd.results34, go_sem, r0, r1, r2, g0, g1, g2]) rfl ⟨none, 0, 0, rfl, (by show Num _ _ _ _ (limbs 0); rw [limbs_zero]; exact Num.nil _), by (repeat' (first | exact Below.refl _ _ | assumption | (refine below_alloc ?_ _) | (refine Below.setCell ?_ ?_ _) | (refine Below.drew ?_) | (refine below_drewN ?_ _))) <;> (first | (simp; done) | (simp; omega) | omega)⟩

end
end Go.Proofs.YtjlaadadbpffdaaDoor
