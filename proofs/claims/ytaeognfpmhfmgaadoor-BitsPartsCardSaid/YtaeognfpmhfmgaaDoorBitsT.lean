/-
  The reference's Round at every input; walks of its Log and Scale.
-/
import Derived.Test.YtaeognfpmhfmgaaDoorRoundR
import Derived.Deep.LoopGhost
set_option linter.unusedSimpArgs false
set_option linter.unusedVariables false
namespace Go.Plumb
theorem roundW_zero (neg : Bool) (m e : Int) (more : Bool) (h1 : m < 18446744073709551616) (h : (m = 0 ∧ more = false) ∨ e < -3000) : roundW neg m e more = (wordN neg 0 : Int) := by
  unfold roundW
  rcases h with ⟨rfl, rfl⟩ | h
  · rfl
  · split
    · rw [roundN_small neg _ _ (Nat.lt_of_lt_of_le (show 2 * m.toNat + 1 < 36893488147419103232 by omega) (by decide)) (by omega)]
    · rw [roundN_small neg _ _ (Nat.lt_of_lt_of_le (show m.toNat < 36893488147419103232 by omega) (by decide)) (by omega)]
theorem roundW_inf (neg : Bool) (m e : Int) (more : Bool) (h0 : 0 ≤ m) (h : ¬ (m = 0 ∧ more = false)) (he : 3000 < e) : roundW neg m e more = (wordN neg 9218868437227405312 : Int) := by
  unfold roundW
  split
  · rw [roundN_big neg _ _ (by omega) (by omega)]
  · rename_i hm
    rw [roundN_big neg _ _ (by intro h'; apply h; exact ⟨by omega, by simpa using hm⟩) (by omega)]
theorem wordN_sign (neg : Bool) (r : Nat) : (wordN neg r : Int) = if neg = true then 9223372036854775808 + (r : Int) else (r : Int) := by unfold wordN; split <;> simp
end Go.Plumb
namespace Go.Proofs.YtaeognfpmhfmgaaDoor
open Go.RowKit Go.Plumb

set_option maxHeartbeats 1000000 in
theorem rround_zero (neg more : Bool) (m e : Int) (w : World) (h : (m = 0 ∧ more = false) ∨ e < -3000) :
    Calls Tryd.prog 28 #[.agg #[.bool neg, .int .u64 m, .int .i64 e], .bool more] w fun e' w' => e' = .returned (.int .u64 (wordN neg 0 : Int)) ∧ Below w.heap.size w w' := by
  have HW : Hid ((wordN neg 0 : Int) = if neg = true then 9223372036854775808 + ((0 : Nat) : Int) else ((0 : Nat) : Int)) := Lib.hid (wordN_sign neg 0)
  rcases h with ⟨rfl, rfl⟩ | h
  · go_enter Tryd.func28, Tryd.ntmps28
    go_wp2_with fail
    go_quiet (fail)
    go_wp2_with (go_at_call 53; (with_reducible refine (rsign_any _ _ _ (by omega) (by omega)).mono ?_); rintro e w' ⟨rfl, rfl⟩)
    all_goals go_ret
    all_goals exact ⟨ret_int (by first | rfl | (rw [HW.out]; simp_all)), by (repeat' (first | exact Below.refl _ _ | assumption | (refine below_alloc ?_ _) | (refine Below.setCell ?_ ?_ _) | (refine Below.drew ?_) | (refine below_drewN ?_ _))) <;> (first | (simp; done) | (simp; omega) | omega)⟩
  · generalize hzb : (m == 0) = zb
    cases zb <;> cases more
    all_goals
      go_enter Tryd.func28, Tryd.ntmps28
      go_wp2_with fail
      go_quiet (fail)
      go_wp2_with (go_at_call 53; (with_reducible refine (rsign_any _ _ _ (by omega) (by omega)).mono ?_); rintro e w' ⟨rfl, rfl⟩)
      all_goals go_ret
      all_goals exact ⟨ret_int (by first | rfl | (rw [HW.out]; simp_all)), by (repeat' (first | exact Below.refl _ _ | assumption | (refine below_alloc ?_ _) | (refine Below.setCell ?_ ?_ _) | (refine Below.drew ?_) | (refine below_drewN ?_ _))) <;> (first | (simp; done) | (simp; omega) | omega)⟩

set_option maxHeartbeats 1000000 in
theorem rround_inf (neg more : Bool) (m e : Int) (w : World) (h : ¬ (m = 0 ∧ more = false)) (he : 3000 < e) :
    Calls Tryd.prog 28 #[.agg #[.bool neg, .int .u64 m, .int .i64 e], .bool more] w fun e' w' => e' = .returned (.int .u64 (wordN neg 9218868437227405312 : Int)) ∧ Below w.heap.size w w' := by
  have HW : Hid ((wordN neg 9218868437227405312 : Int) = if neg = true then 9223372036854775808 + ((9218868437227405312 : Nat) : Int) else ((9218868437227405312 : Nat) : Int)) := Lib.hid (wordN_sign neg _)
  generalize hzb : (m == 0) = zb
  have hz : (zb = false) ∨ (zb = true ∧ more = true) := by
    cases zb <;> cases more <;> simp_all
  clear h
  rcases hz with rfl | ⟨rfl, rfl⟩
  all_goals
    go_enter Tryd.func28, Tryd.ntmps28
    go_wp2_with fail
    go_quiet (fail)
    go_wp2_with (go_at_call 53; (with_reducible refine (rsign_any _ _ _ (by omega) (by omega)).mono ?_); rintro e w' ⟨rfl, rfl⟩)
    all_goals go_ret
    all_goals exact ⟨ret_int (by first | rfl | (rw [HW.out]; simp_all)), by (repeat' (first | exact Below.refl _ _ | assumption | (refine below_alloc ?_ _) | (refine Below.setCell ?_ ?_ _) | (refine Below.drew ?_) | (refine below_drewN ?_ _))) <;> (first | (simp; done) | (simp; omega) | omega)⟩

/-- The reference's Round, at every input at which it may be asked. -/
theorem rround_any (neg : Bool) (m e : Int) (more : Bool) (w : World) (h0 : 0 ≤ m) (h1 : m < 18446744073709551616) (hb : roundBad m e more = false) :
    Calls Tryd.prog 28 #[.agg #[.bool neg, .int .u64 m, .int .i64 e], .bool more] w fun e' w' => e' = .returned (.int .u64 (roundW neg m e more)) ∧ Below w.heap.size w w' := by
  by_cases hz : (m = 0 ∧ more = false) ∨ e < -3000
  · rw [roundW_zero neg m e more h1 hz]
    exact rround_zero neg more m e w hz
  · by_cases he : 3000 < e
    · rw [roundW_inf neg m e more h0 (fun h => hz (.inl h)) he]
      exact rround_inf neg more m e w (fun h => hz (.inl h)) he
    · obtain ⟨n, rfl, hn⟩ := nat64 h0 h1
      have hm : more = true → (9007199254740992 ≤ n ∨ e ≤ -1075) := by
        intro h; subst h; simp [roundBad] at hb; omega
      have hz' : ¬ (n = 0 ∧ more = false) := fun h => hz (.inl ⟨by omega, h.2⟩)
      refine rround_core neg more _ n e w hn (by omega) (by omega) rfl ?_ _ (fun k j a1 a2 a3 a4 a5 => ?_)
      · cases more
        · left; simp; intro h; exact hz' ⟨by omega, rfl⟩
        · right; rfl
      · rw [ref_round neg more n e k j hm hz' a1 a2 a3 a4 a5]
        unfold roundW
        rw [Int.toNat_natCast]

theorem rroundf_any (neg : Bool) (m e : Int) (w : World) (h0 : 0 ≤ m) (h1 : m < 18446744073709551616) :
    Calls Tryd.prog 28 #[.agg #[.bool neg, .int .u64 m, .int .i64 e], .bool false] w fun e' w' => e' = .returned (.int .u64 (roundW neg m e false)) ∧ Below w.heap.size w w' := rround_any neg m e false w h0 h1 rfl

set_option maxHeartbeats 1000000 in
theorem rscale_fin (neg : Bool) (x k y e x' : Int) (w : World) (h0 : 0 ≤ x) (h1 : x < 18446744073709551616) (hc : classI x ≤ 3) (hn : pNeg x = neg) (hm : pMan x = y) (p0 : 0 ≤ y) (p1 : y < 18446744073709551616) (he : pExp x = e) (e0 : -1074 ≤ e) (e1 : e ≤ 973)
    (hx' : roundW neg y (e + max (-5000) (min 5000 k)) false = x') :
    Calls Tryd.prog 30 #[.int .u64 x, .int .i64 k] w fun e' w' => e' = .returned (.int .u64 x') ∧ Below w.heap.size w w' := by
  go_enter Tryd.func30, Tryd.ntmps30
  go_wp2_with (first | (go_at_call 21; (with_reducible refine (rfinite_any _ _ (by assumption) (by assumption)).mono ?_); rintro e w' ⟨rfl, rfl⟩) | (go_at_call 28; (with_reducible refine (rroundf_any _ _ _ _ (by assumption) (by assumption)).mono ?_); rintro e w' ⟨rfl, hb⟩; have hB := below_step (w0 := w) (by (repeat' (first | exact Below.refl _ _ | assumption | (refine below_alloc ?_ _) | (refine Below.setCell ?_ ?_ _) | (refine Below.drew ?_) | (refine below_drewN ?_ _))) <;> (first | (simp; done) | (simp; omega) | omega)) hb; have hs := hb.size; (try simp at hs); (try have hz0 : w.heap.size < w'.heap.size := by omega); (try have hz1 : w.heap.size + 1 < w'.heap.size := by omega); (try have hz2 : w.heap.size + 1 + 1 < w'.heap.size := by omega); (try have hz3 : w.heap.size + 1 + 1 + 1 < w'.heap.size := by omega); obtain ⟨hc, hf⟩ := bcell hb; clear hb) | (go_at_call 25; (with_reducible refine (rparts_any _ _ (by assumption) (by assumption) (by assumption)).mono ?_); rintro e w' ⟨rfl, hb⟩; have hB := below_step (w0 := w) (by (repeat' (first | exact Below.refl _ _ | assumption | (refine below_alloc ?_ _) | (refine Below.setCell ?_ ?_ _) | (refine Below.drew ?_) | (refine below_drewN ?_ _))) <;> (first | (simp; done) | (simp; omega) | omega)) hb; have hs := hb.size; (try simp at hs); (try have hz0 : w.heap.size < w'.heap.size := by omega); (try have hz1 : w.heap.size + 1 < w'.heap.size := by omega); (try have hz2 : w.heap.size + 1 + 1 < w'.heap.size := by omega); (try have hz3 : w.heap.size + 1 + 1 + 1 < w'.heap.size := by omega); obtain ⟨hc, hf⟩ := bcell hb; clear hb))
  go_ret
  exact ⟨rfl, by (repeat' (first | exact Below.refl _ _ | assumption | (refine below_alloc ?_ _) | (refine Below.setCell ?_ ?_ _) | (refine Below.drew ?_) | (refine below_drewN ?_ _))) <;> (first | (simp; done) | (simp; omega) | omega)⟩

theorem rscale_nan (x k : Int) (w : World) (h0 : 0 ≤ x) (h1 : x < 18446744073709551616) (hc : 3 < classI x) :
    Calls Tryd.prog 30 #[.int .u64 x, .int .i64 k] w fun e' w' => e' = .returned (.int .u64 (oneI x)) ∧ Below w.heap.size w w' := by
  have hc' : decide (classI x ≤ 3) = false := by simp; omega
  clear hc
  go_enter Tryd.func30, Tryd.ntmps30
  go_wp2_with (first | (go_at_call 21; (with_reducible refine (rfinite_any _ _ (by assumption) (by assumption)).mono ?_); rintro e w' ⟨rfl, rfl⟩) | (go_at_call 17; (with_reducible refine (rone_any _ _ (by assumption) (by assumption)).mono ?_); rintro e w' ⟨rfl, rfl⟩))
  go_ret
  exact ⟨rfl, by (repeat' (first | exact Below.refl _ _ | assumption | (refine below_alloc ?_ _) | (refine Below.setCell ?_ ?_ _) | (refine Below.drew ?_) | (refine below_drewN ?_ _))) <;> (first | (simp; done) | (simp; omega) | omega)⟩

theorem rscale_any (x k : Int) (w : World) (h0 : 0 ≤ x) (h1 : x < 18446744073709551616) :
    Calls Tryd.prog 30 #[.int .u64 x, .int .i64 k] w fun e' w' => e' = .returned (.int .u64 (scaleI x k)) ∧ Below w.heap.size w w' := by
  unfold scaleI
  have hm := pMan_lt x
  have hg := pMan_ge x
  by_cases h : pErr x = 0
  · have hc : classI x ≤ 3 := by unfold pErr at h; split at h <;> omega
    rw [if_pos h]
    have hr : roundW (pNeg x) (pMan x) (pExp x + max (-4000) (min 4000 k)) false = roundW (pNeg x) (pMan x) (pExp x + max (-5000) (min 5000 k)) false := by
      have hl := pExp_ge x
      have hu := pExp_le x
      unfold roundW
      simp only [Bool.false_eq_true, if_false]
      have hb : (pMan x).toNat < 2 ^ 65 := Nat.lt_of_lt_of_le (show (pMan x).toNat < 36893488147419103232 by omega) (by decide)
      by_cases h0 : (pMan x).toNat = 0
      · simp [h0, roundN]
      · by_cases k1 : 4000 ≤ k
        · rw [roundN_big _ _ _ h0 (by omega), roundN_big _ _ _ h0 (by omega)]
        · by_cases k2 : k ≤ -4000
          · rw [roundN_small _ _ _ hb (by omega), roundN_small _ _ _ hb (by omega)]
          · have : max (-4000) (min 4000 k) = max (-5000) (min 5000 k) := by omega
            rw [this]
    rw [hr]
    exact rscale_fin _ x k _ _ _ w h0 h1 hc rfl rfl hg (by omega) rfl (pExp_ge x) (pExp_le x) rfl
  · have hc : 3 < classI x := by unfold pErr at h; split at h <;> omega
    rw [if_neg h]
    exact rscale_nan x k w h0 h1 hc

end Go.Proofs.YtaeognfpmhfmgaaDoor
