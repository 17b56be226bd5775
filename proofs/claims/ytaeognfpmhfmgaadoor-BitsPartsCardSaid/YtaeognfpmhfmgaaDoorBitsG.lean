/-
  Walks: bits.same, Exact, Scale, Log.
-/
import Derived.Test.YtaeognfpmhfmgaaDoorBitsF
set_option linter.unusedSimpArgs false
set_option linter.unusedVariables false
namespace Go.Plumb
open Go.RowKit
/-- A number without noughts at its end, and its place. -/
def oddM (m : Int) : Int := if m = 0 then 0 else m / 2 ^ Lib.ctz 64 m.toNat
def oddE (m e : Int) : Int := if m = 0 then 0 else wrap64 (e + Lib.ctz 64 m.toNat)
end Go.Plumb
namespace Go.Proofs.YtaeognfpmhfmgaaDoor
open Go.RowKit Go.Plumb

theorem ctz_le (x : Nat) (h : x < 18446744073709551616) (h0 : x ≠ 0) : Lib.ctz 64 x < 64 := by
  obtain ⟨m, hm, hk⟩ := Lib.ctzFrom_spec 64 x (by omega) (by simpa using h)
  unfold Lib.ctz; rw [if_neg h0]; exact hk

set_option maxHeartbeats 1000000 in
theorem odd_any (neg : Bool) (m e : Int) (w : World) (h0 : 0 ≤ m) (h1 : m < 18446744073709551616) (hT : Tab w) :
    Calls Tryd.prog 58 #[.agg #[.bool neg, .int .u64 m, .int .i64 e]] w fun e' w' => e' = .returned (.agg #[.bool false, .int .u64 (oddM m), .int .i64 (oddE m e)]) ∧ Below w.heap.size w w' := by
  by_cases hm : m = 0
  · subst hm
    go_enter Tryd.func58, Tryd.ntmps58
    go_wp2_with fail
    exact bodyPost_ret (v := .agg #[.bool false, .int .u64 (oddM 0), .int .i64 (oddE 0 e)]) (by simp [results, Tryd.results58, go_sem, oddM, oddE]) rfl ⟨rfl, by (repeat' (first | exact Below.refl _ _ | assumption | (refine below_alloc ?_ _) | (refine Below.setCell ?_ ?_ _) | (refine Below.drew ?_) | (refine below_drewN ?_ _))) <;> (first | (simp; done) | (simp; omega) | omega)⟩
  · have hk := ctz_le m.toNat (by omega) (by omega)
    have HM : Hid (oddM m = m / 2 ^ Lib.ctz 64 m.toNat) := by rw [oddM, if_neg hm]; exact Lib.hid rfl
    have HE : Hid (oddE m e = wrap64 (e + Lib.ctz 64 m.toNat)) := by rw [oddE, if_neg hm]; exact Lib.hid rfl
    have hmb : (m == 0) = false := by simpa using hm
    clear hm
    go_enter Tryd.func58, Tryd.ntmps58
    go_wp2_with (go_at_call 59; (with_reducible refine (tz64_any _ _ (by assumption) (by assumption) (hT.below (by (repeat' (first | exact Below.refl _ _ | assumption | (refine below_alloc ?_ _) | (refine Below.setCell ?_ ?_ _) | (refine Below.drew ?_) | (refine below_drewN ?_ _))) <;> (first | (simp; done) | (simp; omega) | omega)))).mono ?_); rintro e w' ⟨rfl, rfl⟩)
    go_region
    go_wp2_with fail
    exact bodyPost_ret (v := .agg #[.bool false, .int .u64 (oddM m), .int .i64 (oddE m e)]) (by rw [HM.out, HE.out]; simp [results, Tryd.results58, go_sem]) rfl ⟨rfl, by (repeat' (first | exact Below.refl _ _ | assumption | (refine below_alloc ?_ _) | (refine Below.setCell ?_ ?_ _) | (refine Below.drew ?_) | (refine below_drewN ?_ _))) <;> (first | (simp; done) | (simp; omega) | omega)⟩

theorem run_eql_parts (a a' : Bool) (b b' c c' : Int) (w : World) :
    (binOp .eql 32 (.agg #[.bool a, .int .u64 b, .int .i64 c]) (.agg #[.bool a', .int .u64 b', .int .i64 c'])).run Tryd.prog w = .ok (.bool (a == a' && (b == b' && c == c'))) w := by
  by_cases h1 : a = a' <;> by_cases h2 : b = b' <;> by_cases h3 : c = c' <;> simp [go_sem, h1, h2, h3]
set_option maxHeartbeats 1000000 in
theorem same_any (n1 n2 : Bool) (m1 e1 m2 e2 : Int) (w : World) (h0 : 0 ≤ m1) (h1 : m1 < 18446744073709551616) (k0 : 0 ≤ m2) (k1 : m2 < 18446744073709551616) (hT : Tab w) :
    Calls Tryd.prog 48 #[.agg #[.bool n1, .int .u64 m1, .int .i64 e1], .agg #[.bool n2, .int .u64 m2, .int .i64 e2]] w fun e' w' => e' = .returned (.bool (oddM m1 == oddM m2 && oddE m1 e1 == oddE m2 e2)) ∧ Below w.heap.size w w' := by
  have heq := run_eql_parts
  go_enter Tryd.func48, Tryd.ntmps48
  go_wp2_with fail
  go_region_with (go_at_call 58; (with_reducible refine (odd_any _ _ _ _ (by assumption) (by assumption) (hT.below (by (repeat' (first | exact Below.refl _ _ | assumption | (refine below_alloc ?_ _) | (refine Below.setCell ?_ ?_ _) | (refine Below.drew ?_) | (refine below_drewN ?_ _))) <;> (first | (simp; done) | (simp; omega) | omega)))).mono ?_); rintro e w' ⟨rfl, hb⟩; have hB := below_step (w0 := w) (by (repeat' (first | exact Below.refl _ _ | assumption | (refine below_alloc ?_ _) | (refine Below.setCell ?_ ?_ _) | (refine Below.drew ?_) | (refine below_drewN ?_ _))) <;> (first | (simp; done) | (simp; omega) | omega)) hb; have hs := hb.size; (try simp at hs); (try have hz0 : w.heap.size < w'.heap.size := by omega); (try have hz1 : w.heap.size + 1 < w'.heap.size := by omega); (try have hz2 : w.heap.size + 1 + 1 < w'.heap.size := by omega); (try have hz3 : w.heap.size + 1 + 1 + 1 < w'.heap.size := by omega); obtain ⟨hc, hf⟩ := bcell hb; clear hb)
  all_goals clear heq
  all_goals go_wp2_with fail
  all_goals go_ret
  all_goals exact ⟨rfl, by assumption⟩

end Go.Proofs.YtaeognfpmhfmgaaDoor
