/-
  The reference's Round at every input; walks of its Log and Scale.
-/
import Derived.Test.YtjlaadadbpffdaaGreatDoorRoundR
import Derived.Deep.LoopGhost
set_option linter.unusedSimpArgs false
set_option linter.unusedVariables false
namespace Go.Plumb
theorem roundW_zero (neg : Bool) (m e : Int) (more : Bool) (h1 : m < 18446744073709551616) (h : (m = 0 ∧ more = false) ∨ e < -3000) : roundW neg m e more = (wordN neg 0 : Int) := by
  unfold roundW
  rcases h with ⟨rfl, rfl⟩ | h
  · rfl
  · split
    · rw [roundN_small neg _ _ (Nat.lt_of_lt_of_le (show 2 * m.toNat + 1 < 36893488147419103232 by omega) (by decide)) (by omega)]
    · rw [roundN_small neg _ _ (Nat.lt_of_lt_of_le (show m.toNat < 36893488147419103232 by omega) (by decide)) (by omega)]
theorem roundW_inf (neg : Bool) (m e : Int) (more : Bool) (h0 : 0 ≤ m) (h : ¬ (m = 0 ∧ more = false)) (he : 3000 < e) : roundW neg m e more = (wordN neg 9218868437227405312 : Int) := by
  unfold roundW
  split
  · rw [roundN_big neg _ _ (by omega) (by omega)]
  · rename_i hm
    rw [roundN_big neg _ _ (by intro h'; apply h; exact ⟨by omega, by simpa using hm⟩) (by omega)]
theorem wordN_sign (neg : Bool) (r : Nat) : (wordN neg r : Int) = if neg = true then 9223372036854775808 + (r : Int) else (r : Int) := by unfold wordN; split <;> simp
end Go.Plumb
namespace Go.Proofs.YtjlaadadbpffdaaGreatDoor
open Go.RowKit Go.Plumb

set_option maxHeartbeats 1000000 in
theorem rround_zero (neg more : Bool) (m e : Int) (w : World) (h : (m = 0 ∧ more = false) ∨ e < -3000) :
    Calls Tryz.prog 142 #[.agg #[.bool neg, .int .u64 m, .int .i64 e], .bool more] w fun e' w' => e' = .returned (.int .u64 (wordN neg 0 : Int)) ∧ Below w.heap.size w w' := by
  have HW : Hid ((wordN neg 0 : Int) = if neg = true then 9223372036854775808 + ((0 : Nat) : Int) else ((0 : Nat) : Int)) := Lib.hid (wordN_sign neg 0)
  rcases h with ⟨rfl, rfl⟩ | h
  · go_enter Tryz.func142, Tryz.ntmps142
    go_wp2_with fail
    go_quiet (fail)
    go_wp2_with (go_at_call 166; (with_reducible refine (rsign_any _ _ _ (by omega) (by omega)).mono ?_); rintro e w' ⟨rfl, rfl⟩)
    all_goals go_ret
    all_goals exact ⟨ret_int (by first | rfl | (rw [HW.out]; simp_all)), by (repeat' (first | exact Below.refl _ _ | assumption | (refine below_alloc ?_ _) | (refine Below.setCell ?_ ?_ _) | (refine Below.drew ?_) | (refine below_drewN ?_ _))) <;> (first | (simp; done) | (simp; omega) | omega)⟩
  · generalize hzb : (m == 0) = zb
    cases zb <;> cases more
    all_goals
      go_enter Tryz.func142, Tryz.ntmps142
      go_wp2_with fail
      go_quiet (fail)
      go_wp2_with (go_at_call 166; (with_reducible refine (rsign_any _ _ _ (by omega) (by omega)).mono ?_); rintro e w' ⟨rfl, rfl⟩)
      all_goals go_ret
      all_goals exact ⟨ret_int (by first | rfl | (rw [HW.out]; simp_all)), by (repeat' (first | exact Below.refl _ _ | assumption | (refine below_alloc ?_ _) | (refine Below.setCell ?_ ?_ _) | (refine Below.drew ?_) | (refine below_drewN ?_ _))) <;> (first | (simp; done) | (simp; omega) | omega)⟩

set_option maxHeartbeats 1000000 in
theorem rround_inf (neg more : Bool) (m e : Int) (w : World) (h : ¬ (m = 0 ∧ more = false)) (he : 3000 < e) :
    Calls Tryz.prog 142 #[.agg #[.bool neg, .int .u64 m, .int .i64 e], .bool more] w fun e' w' => e' = .returned (.int .u64 (wordN neg 9218868437227405312 : Int)) ∧ Below w.heap.size w w' := by
  have HW : Hid ((wordN neg 9218868437227405312 : Int) = if neg = true then 9223372036854775808 + ((9218868437227405312 : Nat) : Int) else ((9218868437227405312 : Nat) : Int)) := Lib.hid (wordN_sign neg _)
  generalize hzb : (m == 0) = zb
  have hz : (zb = false) ∨ (zb = true ∧ more = true) := by
    cases zb <;> cases more <;> simp_all
  clear h
  rcases hz with rfl | ⟨rfl, rfl⟩
  all_goals
    go_enter Tryz.func142, Tryz.ntmps142
    go_wp2_with fail
    go_quiet (fail)
    go_wp2_with (go_at_call 166; (with_reducible refine (rsign_any _ _ _ (by omega) (by omega)).mono ?_); rintro e w' ⟨rfl, rfl⟩)
    all_goals go_ret
    all_goals exact ⟨ret_int (by first | rfl | (rw [HW.out]; simp_all)), by (repeat' (first | exact Below.refl _ _ | assumption | (refine below_alloc ?_ _) | (refine Below.setCell ?_ ?_ _) | (refine Below.drew ?_) | (refine below_drewN ?_ _))) <;> (first | (simp; done) | (simp; omega) | omega)⟩

/-- The reference's Round, at every input at which it may be asked. -/
theorem rround_any (neg : Bool) (m e : Int) (more : Bool) (w : World) (h0 : 0 ≤ m) (h1 : m < 18446744073709551616) (hb : roundBad m e more = false) :
    Calls Tryz.prog 142 #[.agg #[.bool neg, .int .u64 m, .int .i64 e], .bool more] w fun e' w' => e' = .returned (.int .u64 (roundW neg m e more)) ∧ Below w.heap.size w w' := by
  by_cases hz : (m = 0 ∧ more = false) ∨ e < -3000
  · rw [roundW_zero neg m e more h1 hz]
    exact rround_zero neg more m e w hz
  · by_cases he : 3000 < e
    · rw [roundW_inf neg m e more h0 (fun h => hz (.inl h)) he]
      exact rround_inf neg more m e w (fun h => hz (.inl h)) he
    · obtain ⟨n, rfl, hn⟩ := nat64 h0 h1
      have hm : more = true → (9007199254740992 ≤ n ∨ e ≤ -1075) := by
        intro h; subst h; simp [roundBad] at hb; omega
      have hz' : ¬ (n = 0 ∧ more = false) := fun h => hz (.inl ⟨by omega, h.2⟩)
      refine rround_core neg more _ n e w hn (by omega) (by omega) rfl ?_ _ (fun k j a1 a2 a3 a4 a5 => ?_)
      · cases more
        · left; simp; intro h; exact hz' ⟨by omega, rfl⟩
        · right; rfl
      · rw [ref_round neg more n e k j hm hz' a1 a2 a3 a4 a5]
        unfold roundW
        rw [Int.toNat_natCast]

theorem rroundf_any (neg : Bool) (m e : Int) (w : World) (h0 : 0 ≤ m) (h1 : m < 18446744073709551616) :
    Calls Tryz.prog 142 #[.agg #[.bool neg, .int .u64 m, .int .i64 e], .bool false] w fun e' w' => e' = .returned (.int .u64 (roundW neg m e false)) ∧ Below w.heap.size w w' := rround_any neg m e false w h0 h1 rfl

end Go.Proofs.YtjlaadadbpffdaaGreatDoor
