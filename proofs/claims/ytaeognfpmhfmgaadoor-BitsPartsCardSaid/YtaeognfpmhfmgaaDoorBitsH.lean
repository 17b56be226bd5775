/-
  Walks: bits.Exact, Scale, Log.
-/
import Derived.Test.YtaeognfpmhfmgaaDoorBitsG
set_option linter.unusedSimpArgs false
set_option linter.unusedVariables false
namespace Go.Plumb
/-- Is there a finite word of just that number? -/
def exactB (neg : Bool) (m e : Int) : Bool := decide (pErr (roundW neg m e false) = 0) && (oddM m == oddM (pMan (roundW neg m e false)) && oddE m e == oddE (pMan (roundW neg m e false)) (pExp (roundW neg m e false)))
def scaleI (x k : Int) : Int := if pErr x = 0 then roundW (pNeg x) (pMan x) (pExp x + max (-4000) (min 4000 k)) false else oneI x
def logOK (x : Int) : Bool := decide (pErr x = 0) && pMan x != 0

theorem wordN_lt (neg : Bool) (r : Nat) (h : r ≤ 9218868437227405312) : wordN neg r < 18446744073709551616 := by unfold wordN; split <;> omega
theorem roundN_lt (neg : Bool) (n : Nat) (e : Int) : roundN neg n e < 18446744073709551616 := by
  unfold roundN
  split
  · exact wordN_lt neg 0 (by decide)
  · exact wordN_lt neg _ (Nat.min_le_right _ _)
theorem roundW_ge (neg : Bool) (m e : Int) (more : Bool) : 0 ≤ roundW neg m e more := by unfold roundW; split <;> exact Int.natCast_nonneg _
theorem roundW_lt (neg : Bool) (m e : Int) (more : Bool) : roundW neg m e more < 18446744073709551616 := by
  unfold roundW; split
  · have := roundN_lt neg (2 * m.toNat + 1) (e - 1); omega
  · have := roundN_lt neg m.toNat e; omega
theorem pMan_ge (x : Int) : 0 ≤ pMan x := by unfold pMan; repeat' split
                                             all_goals omega
theorem pMan_lt (x : Int) : pMan x < 9007199254740992 := by unfold pMan; repeat' split
                                                            all_goals omega
theorem pExp_ge (x : Int) : -1074 ≤ pExp x := by
  unfold pExp; split
  · rename_i h; unfold classI at h; split at h
    · split at h <;> omega
    · split at h
      · split at h <;> omega
      · omega
  · split <;> omega
theorem pExp_le (x : Int) : pExp x ≤ 973 := by unfold pExp; repeat' split
                                               all_goals omega
end Go.Plumb
namespace Go.Proofs.YtaeognfpmhfmgaaDoor
open Go.RowKit Go.Plumb

theorem roundf_any (neg : Bool) (m e : Int) (w : World) (h0 : 0 ≤ m) (h1 : m < 18446744073709551616) :
    Calls Tryd.prog 24 #[.agg #[.bool neg, .int .u64 m, .int .i64 e], .bool false] w fun e' w' => e' = .returned (.tuple #[.int .u64 (roundW neg m e false), .int .i64 0]) ∧ Below w.heap.size w w' := round_any neg m e false w h0 h1 rfl

set_option maxHeartbeats 1000000 in
theorem exact_core (neg b1 b2 : Bool) (m e x y z : Int) (w : World) (h0 : 0 ≤ m) (h1 : m < 18446744073709551616) (hT : Tab w) (hr : roundW neg m e false = x) (x0 : 0 ≤ x) (x1 : x < 18446744073709551616)
    (hy : pMan x = y) (p0 : 0 ≤ y) (p1 : y < 18446744073709551616) (hz : pExp x = z) (hb1 : (pErr x != 0) = b1) (hb2 : (oddM m == oddM y && oddE m e == oddE y z) = b2) :
    Calls Tryd.prog 23 #[.agg #[.bool neg, .int .u64 m, .int .i64 e]] w fun e' w' => e' = .returned (.tuple #[.int .u64 (if (b1 || !b2) = true then 0 else x), .int .i64 (if (b1 || !b2) = true then 6 else 0)]) ∧ Below w.heap.size w w' := by
  cases b1
  · cases b2
    all_goals
      go_enter Tryd.func23, Tryd.ntmps23
      go_wp2_with (first | (go_at_call 24; (with_reducible refine (roundf_any _ _ _ _ (by assumption) (by assumption)).mono ?_); rintro e w' ⟨rfl, hb⟩; have hB := below_step (w0 := w) (by (repeat' (first | exact Below.refl _ _ | assumption | (refine below_alloc ?_ _) | (refine Below.setCell ?_ ?_ _) | (refine Below.drew ?_) | (refine below_drewN ?_ _))) <;> (first | (simp; done) | (simp; omega) | omega)) hb; have hs := hb.size; (try simp at hs); (try have hz0 : w.heap.size < w'.heap.size := by omega); (try have hz1 : w.heap.size + 1 < w'.heap.size := by omega); (try have hz2 : w.heap.size + 1 + 1 < w'.heap.size := by omega); (try have hz3 : w.heap.size + 1 + 1 + 1 < w'.heap.size := by omega); obtain ⟨hc, hf⟩ := bcell hb; clear hb) | (go_at_call 20; (with_reducible refine (parts_any _ _ (by assumption) (by assumption)).mono ?_); rintro e w' ⟨rfl, hb⟩; have hB := below_step (w0 := w) (by (repeat' (first | exact Below.refl _ _ | assumption | (refine below_alloc ?_ _) | (refine Below.setCell ?_ ?_ _) | (refine Below.drew ?_) | (refine below_drewN ?_ _))) <;> (first | (simp; done) | (simp; omega) | omega)) hb; have hs := hb.size; (try simp at hs); (try have hz0 : w.heap.size < w'.heap.size := by omega); (try have hz1 : w.heap.size + 1 < w'.heap.size := by omega); (try have hz2 : w.heap.size + 1 + 1 < w'.heap.size := by omega); (try have hz3 : w.heap.size + 1 + 1 + 1 < w'.heap.size := by omega); obtain ⟨hc, hf⟩ := bcell hb; clear hb) | (go_at_call 48; (with_reducible refine (same_any _ _ _ _ _ _ _ (by assumption) (by assumption) (by assumption) (by assumption) (hT.below (by (repeat' (first | exact Below.refl _ _ | assumption | (refine below_alloc ?_ _) | (refine Below.setCell ?_ ?_ _) | (refine Below.drew ?_) | (refine below_drewN ?_ _))) <;> (first | (simp; done) | (simp; omega) | omega)))).mono ?_); rintro e w' ⟨rfl, hb⟩; have hB := below_step (w0 := w) (by (repeat' (first | exact Below.refl _ _ | assumption | (refine below_alloc ?_ _) | (refine Below.setCell ?_ ?_ _) | (refine Below.drew ?_) | (refine below_drewN ?_ _))) <;> (first | (simp; done) | (simp; omega) | omega)) hb; have hs := hb.size; (try simp at hs); clear hb))
      go_ret2
      exact ⟨rfl, by (repeat' (first | exact Below.refl _ _ | assumption | (refine below_alloc ?_ _) | (refine Below.setCell ?_ ?_ _) | (refine Below.drew ?_) | (refine below_drewN ?_ _))) <;> (first | (simp; done) | (simp; omega) | omega)⟩
  · go_enter Tryd.func23, Tryd.ntmps23
    go_wp2_with (first | (go_at_call 24; (with_reducible refine (roundf_any _ _ _ _ (by assumption) (by assumption)).mono ?_); rintro e w' ⟨rfl, hb⟩; have hB := below_step (w0 := w) (by (repeat' (first | exact Below.refl _ _ | assumption | (refine below_alloc ?_ _) | (refine Below.setCell ?_ ?_ _) | (refine Below.drew ?_) | (refine below_drewN ?_ _))) <;> (first | (simp; done) | (simp; omega) | omega)) hb; have hs := hb.size; (try simp at hs); (try have hz0 : w.heap.size < w'.heap.size := by omega); (try have hz1 : w.heap.size + 1 < w'.heap.size := by omega); (try have hz2 : w.heap.size + 1 + 1 < w'.heap.size := by omega); (try have hz3 : w.heap.size + 1 + 1 + 1 < w'.heap.size := by omega); obtain ⟨hc, hf⟩ := bcell hb; clear hb) | (go_at_call 20; (with_reducible refine (parts_any _ _ (by assumption) (by assumption)).mono ?_); rintro e w' ⟨rfl, hb⟩; have hB := below_step (w0 := w) (by (repeat' (first | exact Below.refl _ _ | assumption | (refine below_alloc ?_ _) | (refine Below.setCell ?_ ?_ _) | (refine Below.drew ?_) | (refine below_drewN ?_ _))) <;> (first | (simp; done) | (simp; omega) | omega)) hb; have hs := hb.size; (try simp at hs); (try have hz0 : w.heap.size < w'.heap.size := by omega); (try have hz1 : w.heap.size + 1 < w'.heap.size := by omega); (try have hz2 : w.heap.size + 1 + 1 < w'.heap.size := by omega); (try have hz3 : w.heap.size + 1 + 1 + 1 < w'.heap.size := by omega); obtain ⟨hc, hf⟩ := bcell hb; clear hb))
    go_ret2
    exact ⟨rfl, by (repeat' (first | exact Below.refl _ _ | assumption | (refine below_alloc ?_ _) | (refine Below.setCell ?_ ?_ _) | (refine Below.drew ?_) | (refine below_drewN ?_ _))) <;> (first | (simp; done) | (simp; omega) | omega)⟩
theorem exact_any (neg : Bool) (m e : Int) (w : World) (h0 : 0 ≤ m) (h1 : m < 18446744073709551616) (hT : Tab w) :
    Calls Tryd.prog 23 #[.agg #[.bool neg, .int .u64 m, .int .i64 e]] w fun e' w' => e' = .returned (.tuple #[.int .u64 (if exactB neg m e = true then roundW neg m e false else 0), .int .i64 (if exactB neg m e = true then 0 else 6)]) ∧ Below w.heap.size w w' := by
  have hm := pMan_lt (roundW neg m e false)
  have := exact_core neg _ _ m e _ _ _ w h0 h1 hT rfl (roundW_ge neg m e false) (roundW_lt neg m e false) rfl (pMan_ge _) (by omega) rfl rfl rfl
  have hx : (pErr (roundW neg m e false) != 0 || !(oddM m == oddM (pMan (roundW neg m e false)) && oddE m e == oddE (pMan (roundW neg m e false)) (pExp (roundW neg m e false)))) = !exactB neg m e := by
    unfold exactB
    by_cases h : pErr (roundW neg m e false) = 0 <;> simp [h]
  rw [hx] at this
  cases hE : exactB neg m e <;> simpa [hE] using this

set_option maxHeartbeats 1000000 in
theorem scale_core (neg : Bool) (x k y e x' : Int) (w : World) (h0 : 0 ≤ x) (h1 : x < 18446744073709551616) (hn : pNeg x = neg) (hm : pMan x = y) (p0 : 0 ≤ y) (p1 : y < 18446744073709551616) (he : pExp x = e) (e0 : -1074 ≤ e) (e1 : e ≤ 973)
    (hb1 : (pErr x != 0) = false) (hx' : roundW neg y (e + max (-4000) (min 4000 k)) false = x') :
    Calls Tryd.prog 29 #[.int .u64 x, .int .i64 k] w fun e' w' => e' = .returned (.int .u64 x') ∧ Below w.heap.size w w' := by
  go_enter Tryd.func29, Tryd.ntmps29
  go_wp2_with (first | (go_at_call 24; (with_reducible refine (roundf_any _ _ _ _ (by assumption) (by assumption)).mono ?_); rintro e w' ⟨rfl, hb⟩; have hB := below_step (w0 := w) (by (repeat' (first | exact Below.refl _ _ | assumption | (refine below_alloc ?_ _) | (refine Below.setCell ?_ ?_ _) | (refine Below.drew ?_) | (refine below_drewN ?_ _))) <;> (first | (simp; done) | (simp; omega) | omega)) hb; have hs := hb.size; (try simp at hs); (try have hz0 : w.heap.size < w'.heap.size := by omega); (try have hz1 : w.heap.size + 1 < w'.heap.size := by omega); (try have hz2 : w.heap.size + 1 + 1 < w'.heap.size := by omega); (try have hz3 : w.heap.size + 1 + 1 + 1 < w'.heap.size := by omega); obtain ⟨hc, hf⟩ := bcell hb; clear hb) | (go_at_call 20; (with_reducible refine (parts_any _ _ (by assumption) (by assumption)).mono ?_); rintro e w' ⟨rfl, hb⟩; have hB := below_step (w0 := w) (by (repeat' (first | exact Below.refl _ _ | assumption | (refine below_alloc ?_ _) | (refine Below.setCell ?_ ?_ _) | (refine Below.drew ?_) | (refine below_drewN ?_ _))) <;> (first | (simp; done) | (simp; omega) | omega)) hb; have hs := hb.size; (try simp at hs); (try have hz0 : w.heap.size < w'.heap.size := by omega); (try have hz1 : w.heap.size + 1 < w'.heap.size := by omega); (try have hz2 : w.heap.size + 1 + 1 < w'.heap.size := by omega); (try have hz3 : w.heap.size + 1 + 1 + 1 < w'.heap.size := by omega); obtain ⟨hc, hf⟩ := bcell hb; clear hb))
  go_ret
  exact ⟨rfl, by (repeat' (first | exact Below.refl _ _ | assumption | (refine below_alloc ?_ _) | (refine Below.setCell ?_ ?_ _) | (refine Below.drew ?_) | (refine below_drewN ?_ _))) <;> (first | (simp; done) | (simp; omega) | omega)⟩

set_option maxHeartbeats 1000000 in
theorem scale_nan (x k : Int) (w : World) (h0 : 0 ≤ x) (h1 : x < 18446744073709551616) (hb1 : (pErr x != 0) = true) :
    Calls Tryd.prog 29 #[.int .u64 x, .int .i64 k] w fun e' w' => e' = .returned (.int .u64 (oneI x)) ∧ Below w.heap.size w w' := by
  have hxn : (x.toNat : Int) = x := by omega
  have hxl : x.toNat < 18446744073709551616 := by omega
  go_enter Tryd.func29, Tryd.ntmps29
  go_wp2_with (first | (go_at_call 14; (with_reducible refine (float_any _ _).mono ?_); rintro e w' ⟨rfl, rfl⟩) | (go_at_call 16; (with_reducible refine (of_any _ _ (by assumption)).mono ?_); rintro e w' ⟨rfl, rfl⟩) | (go_at_call 20; (with_reducible refine (parts_any _ _ (by assumption) (by assumption)).mono ?_); rintro e w' ⟨rfl, hb⟩; have hB := below_step (w0 := w) (by (repeat' (first | exact Below.refl _ _ | assumption | (refine below_alloc ?_ _) | (refine Below.setCell ?_ ?_ _) | (refine Below.drew ?_) | (refine below_drewN ?_ _))) <;> (first | (simp; done) | (simp; omega) | omega)) hb; have hs := hb.size; (try simp at hs); (try have hz0 : w.heap.size < w'.heap.size := by omega); (try have hz1 : w.heap.size + 1 < w'.heap.size := by omega); (try have hz2 : w.heap.size + 1 + 1 < w'.heap.size := by omega); (try have hz3 : w.heap.size + 1 + 1 + 1 < w'.heap.size := by omega); obtain ⟨hc, hf⟩ := bcell hb; clear hb))
  go_ret
  exact ⟨by rw [← hxn]; rfl, by (repeat' (first | exact Below.refl _ _ | assumption | (refine below_alloc ?_ _) | (refine Below.setCell ?_ ?_ _) | (refine Below.drew ?_) | (refine below_drewN ?_ _))) <;> (first | (simp; done) | (simp; omega) | omega)⟩

theorem scale_any (x k : Int) (w : World) (h0 : 0 ≤ x) (h1 : x < 18446744073709551616) :
    Calls Tryd.prog 29 #[.int .u64 x, .int .i64 k] w fun e' w' => e' = .returned (.int .u64 (scaleI x k)) ∧ Below w.heap.size w w' := by
  unfold scaleI
  by_cases h : pErr x = 0
  · rw [if_pos h]
    have hm := pMan_lt x
    exact scale_core _ x k _ _ _ w h0 h1 rfl rfl (pMan_ge x) (by omega) rfl (pExp_ge x) (pExp_le x) (by simp [h]) rfl
  · rw [if_neg h]
    exact scale_nan x k w h0 h1 (by simp [h])

set_option maxHeartbeats 1000000 in
theorem log_core (b1 b2 : Bool) (x y z l : Int) (w : World) (h0 : 0 ≤ x) (h1 : x < 18446744073709551616) (hm : pMan x = y) (p0 : 0 ≤ y) (p1 : y < 18446744073709551616) (he : pExp x = z) (e0 : -1074 ≤ z) (e1 : z ≤ 973)
    (hb1 : (pErr x != 0) = b1) (hb2 : (y == 0) = b2) (hl : lenI y = l) (l0 : 0 ≤ l) (l1 : l ≤ 64) :
    Calls Tryd.prog 35 #[.int .u64 x] w fun e' w' => e' = .returned (.tuple #[.int .i64 (if (b1 || b2) = true then 0 else z + l - 1), .int .i64 (if (b1 || b2) = true then 2 else 0)]) ∧ Below w.heap.size w w' := by
  cases b1
  · cases b2
    · go_enter Tryd.func35, Tryd.ntmps35
      go_wp2_with (go_at_call 20; (with_reducible refine (parts_any _ _ (by assumption) (by assumption)).mono ?_); rintro e w' ⟨rfl, hb⟩; have hB := below_step (w0 := w) (by (repeat' (first | exact Below.refl _ _ | assumption | (refine below_alloc ?_ _) | (refine Below.setCell ?_ ?_ _) | (refine Below.drew ?_) | (refine below_drewN ?_ _))) <;> (first | (simp; done) | (simp; omega) | omega)) hb; have hs := hb.size; (try simp at hs); (try have hz0 : w.heap.size < w'.heap.size := by omega); (try have hz1 : w.heap.size + 1 < w'.heap.size := by omega); (try have hz2 : w.heap.size + 1 + 1 < w'.heap.size := by omega); (try have hz3 : w.heap.size + 1 + 1 + 1 < w'.heap.size := by omega); obtain ⟨hc, hf⟩ := bcell hb; clear hb)
      go_quiet ((go_at_call 51; exact quiet_eq (len64_any _ _ (by assumption) (by assumption))))
      go_wp2_with fail
      go_ret2
      exact ⟨by simp, by (repeat' (first | exact Below.refl _ _ | assumption | (refine below_alloc ?_ _) | (refine Below.setCell ?_ ?_ _) | (refine Below.drew ?_) | (refine below_drewN ?_ _))) <;> (first | (simp; done) | (simp; omega) | omega)⟩
    · go_enter Tryd.func35, Tryd.ntmps35
      go_wp2_with (go_at_call 20; (with_reducible refine (parts_any _ _ (by assumption) (by assumption)).mono ?_); rintro e w' ⟨rfl, hb⟩; have hB := below_step (w0 := w) (by (repeat' (first | exact Below.refl _ _ | assumption | (refine below_alloc ?_ _) | (refine Below.setCell ?_ ?_ _) | (refine Below.drew ?_) | (refine below_drewN ?_ _))) <;> (first | (simp; done) | (simp; omega) | omega)) hb; have hs := hb.size; (try simp at hs); (try have hz0 : w.heap.size < w'.heap.size := by omega); (try have hz1 : w.heap.size + 1 < w'.heap.size := by omega); (try have hz2 : w.heap.size + 1 + 1 < w'.heap.size := by omega); (try have hz3 : w.heap.size + 1 + 1 + 1 < w'.heap.size := by omega); obtain ⟨hc, hf⟩ := bcell hb; clear hb)
      go_ret2
      exact ⟨by simp, by (repeat' (first | exact Below.refl _ _ | assumption | (refine below_alloc ?_ _) | (refine Below.setCell ?_ ?_ _) | (refine Below.drew ?_) | (refine below_drewN ?_ _))) <;> (first | (simp; done) | (simp; omega) | omega)⟩
  · go_enter Tryd.func35, Tryd.ntmps35
    go_wp2_with (go_at_call 20; (with_reducible refine (parts_any _ _ (by assumption) (by assumption)).mono ?_); rintro e w' ⟨rfl, hb⟩; have hB := below_step (w0 := w) (by (repeat' (first | exact Below.refl _ _ | assumption | (refine below_alloc ?_ _) | (refine Below.setCell ?_ ?_ _) | (refine Below.drew ?_) | (refine below_drewN ?_ _))) <;> (first | (simp; done) | (simp; omega) | omega)) hb; have hs := hb.size; (try simp at hs); (try have hz0 : w.heap.size < w'.heap.size := by omega); (try have hz1 : w.heap.size + 1 < w'.heap.size := by omega); (try have hz2 : w.heap.size + 1 + 1 < w'.heap.size := by omega); (try have hz3 : w.heap.size + 1 + 1 + 1 < w'.heap.size := by omega); obtain ⟨hc, hf⟩ := bcell hb; clear hb)
    go_ret2
    exact ⟨by simp, by (repeat' (first | exact Below.refl _ _ | assumption | (refine below_alloc ?_ _) | (refine Below.setCell ?_ ?_ _) | (refine Below.drew ?_) | (refine below_drewN ?_ _))) <;> (first | (simp; done) | (simp; omega) | omega)⟩

theorem log_any (x : Int) (w : World) (h0 : 0 ≤ x) (h1 : x < 18446744073709551616) :
    Calls Tryd.prog 35 #[.int .u64 x] w fun e' w' => e' = .returned (.tuple #[.int .i64 (if logOK x = true then pExp x + lenI (pMan x) - 1 else 0), .int .i64 (if logOK x = true then 0 else 2)]) ∧ Below w.heap.size w w' := by
  have hm := pMan_lt x
  have hl : lenI (pMan x) ≤ 64 := by
    have := lenN_le (pMan x).toNat 64 (by have := pMan_ge x; simp only [Nat.reducePow]; omega)
    unfold lenI; omega
  have := log_core _ _ x _ _ _ w h0 h1 rfl (pMan_ge x) (by omega) rfl (pExp_ge x) (pExp_le x) rfl rfl rfl (by unfold lenI; omega) hl
  have hx : (pErr x != 0 || pMan x == 0) = !logOK x := by
    unfold logOK
    by_cases h : pErr x = 0 <;> by_cases h' : pMan x = 0 <;> simp [h, h', bne]
  rw [hx] at this
  cases hE : logOK x <;> simpa [hE] using this

end Go.Proofs.YtaeognfpmhfmgaaDoor
