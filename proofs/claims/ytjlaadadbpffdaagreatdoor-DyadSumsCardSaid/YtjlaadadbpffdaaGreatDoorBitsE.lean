/-
  Walks: bits.Round.
-/
import Derived.Test.YtjlaadadbpffdaaGreatDoorBnA
import Derived.Test.YtjlaadadbpffdaaGreatDoorZeros
set_option linter.unusedSimpArgs false
set_option linter.unusedVariables false
namespace Go.Proofs.YtjlaadadbpffdaaGreatDoor
open Go.RowKit Go.Plumb

set_option maxHeartbeats 400000 in
theorem even_any (x : Int) (a : Addr) (w : World) (h0 : 0 ≤ x) (h1 : x < 18446744073709551616) (ha : w.cell? a = some (.int .u64 x)) :
    Calls Tryz.prog 155 #[.pointer (some a)] w fun e w' => e = .returned (.bool (x % 2 == 0)) ∧ w = w' := by
  have e1 := and_1 h0 h1
  go_enter Tryz.func155, Tryz.ntmps155
  go_wp2
  go_ret
  exact ⟨rfl, rfl⟩

set_option maxHeartbeats 2000000 in
theorem round_false (neg : Bool) (m e c up m1 d r m2 : Int) (w : World) (h0 : 0 ≤ m) (h1 : m < 18446744073709551616)
    (hm : (m == 0) = false) (hc : max (-4000) (min 4000 e) = c) (hcl : -4000 ≤ c) (hcu : c ≤ 4000)
    (hup : min (64 - lenI m) (max 0 (c + 1075)) = up) (hul : 0 ≤ up) (huu : up ≤ 64) (hm1 : IntKind.u64.wrap (m * 2 ^ up.toNat) = m1) (g0 : 0 ≤ m1) (g1 : m1 < 18446744073709551616)
    (hl0 : 0 ≤ lenI m1) (hl1 : lenI m1 ≤ 64) (hd : (if lenI m1 - 53 < -1074 - (c - up) then -1074 - (c - up) else lenI m1 - 53) = d) (hdl : 0 < d) (hdu : d ≤ 64) (he : -1074 ≤ c - up + d)
    (hr : IntKind.u64.wrap (m1 * 2 ^ (64 - d).toNat) = r) (hm2 : m1 / 2 ^ d.toNat = m2) (k0 : 0 ≤ m2) (k1 : m2 < 9007199254740992) (k2 : m2 < 18446744073709551616) :
    Calls Tryz.prog 101 #[.agg #[.bool neg, .int .u64 m, .int .i64 e], .bool false] w fun e' w' => e' = .returned (.tuple #[.int .u64 (tailI neg r m2 (c - up + d) false), .int .i64 0]) ∧ Below w.heap.size w w' := by
  go_enter Tryz.func101, Tryz.ntmps101
  go_wp2_with fail
  go_region
  go_wp2_with (first | (go_at_call 153; (with_reducible refine (join_any _ _ _ _ (by omega) (by omega) (by omega) (by omega)).mono ?_); rintro e w' ⟨rfl, rfl⟩) | (go_at_call 135; (with_reducible refine (lz64_any _ _ (by assumption) (by assumption)).mono ?_); rintro e w' ⟨rfl, rfl⟩) | (go_at_call 154; (with_reducible refine (len64_any _ _ (by assumption) (by assumption)).mono ?_); rintro e w' ⟨rfl, rfl⟩) | (go_at_call 155; (with_reducible refine (even_any _ _ _ (by assumption) (by assumption) (by simp)).mono ?_); rintro e w' ⟨rfl, rfl⟩))
  all_goals go_ret2
  all_goals (refine ⟨ret_two ?_ rfl, by (repeat' (first | exact Below.refl _ _ | assumption | (refine below_alloc ?_ _) | (refine Below.setCell ?_ ?_ _) | (refine Below.drew ?_) | (refine below_drewN ?_ _))) <;> (first | (simp; done) | (simp; omega) | omega)⟩; unfold tailI rndI)
  all_goals simp only [beq_iff_eq, beq_eq_false_iff_ne, Bool.not_eq_true', Bool.not_eq_false', ne_eq] at *
  all_goals ((repeat' split) <;> first | rfl | (exfalso; omega) | (exfalso; simp_all; done) | (exfalso; simp_all; omega))

set_option maxHeartbeats 2000000 in
theorem round_true1 (neg : Bool) (zb : Bool) (m e c d r m2 : Int) (w : World) (h0 : 0 ≤ m) (h1 : m < 18446744073709551616)
    (hmb : (m == 0) = zb) (hc : max (-4000) (min 4000 e) = c) (hcl : -4000 ≤ c) (hcu : c ≤ 4000) (hg : 9007199254740992 ≤ m)
    (hl0 : 0 ≤ lenI m) (hl1 : lenI m ≤ 64) (hd : (if lenI m - 53 < -1074 - c then -1074 - c else lenI m - 53) = d) (hdl : 0 < d) (hdu : d ≤ 64) (he : -1074 ≤ c + d)
    (hr : IntKind.u64.wrap (m * 2 ^ (64 - d).toNat) = r) (hm2 : m / 2 ^ d.toNat = m2) (k0 : 0 ≤ m2) (k1 : m2 < 9007199254740992) (k2 : m2 < 18446744073709551616) :
    Calls Tryz.prog 101 #[.agg #[.bool neg, .int .u64 m, .int .i64 e], .bool true] w fun e' w' => e' = .returned (.tuple #[.int .u64 (tailI neg r m2 (c + d) true), .int .i64 0]) ∧ Below w.heap.size w w' := by
  go_enter Tryz.func101, Tryz.ntmps101
  go_wp2_with fail
  go_region
  go_wp2_with (first | (go_at_call 153; (with_reducible refine (join_any _ _ _ _ (by omega) (by omega) (by omega) (by omega)).mono ?_); rintro e w' ⟨rfl, rfl⟩) | (go_at_call 135; (with_reducible refine (lz64_any _ _ (by assumption) (by assumption)).mono ?_); rintro e w' ⟨rfl, rfl⟩) | (go_at_call 154; (with_reducible refine (len64_any _ _ (by assumption) (by assumption)).mono ?_); rintro e w' ⟨rfl, rfl⟩) | (go_at_call 155; (with_reducible refine (even_any _ _ _ (by assumption) (by assumption) (by simp)).mono ?_); rintro e w' ⟨rfl, rfl⟩))
  all_goals go_ret2
  all_goals (refine ⟨ret_two ?_ rfl, by (repeat' (first | exact Below.refl _ _ | assumption | (refine below_alloc ?_ _) | (refine Below.setCell ?_ ?_ _) | (refine Below.drew ?_) | (refine below_drewN ?_ _))) <;> (first | (simp; done) | (simp; omega) | omega)⟩; unfold tailI rndI)
  all_goals simp only [beq_iff_eq, beq_eq_false_iff_ne, Bool.not_eq_true', Bool.not_eq_false', ne_eq] at *
  all_goals ((repeat' split) <;> first | rfl | (exfalso; omega) | (exfalso; simp_all; done) | (exfalso; simp_all; omega))

set_option maxHeartbeats 2000000 in
theorem round_true2 (neg : Bool) (zb : Bool) (m e c d r m2 : Int) (w : World) (h0 : 0 ≤ m) (h1 : m < 18446744073709551616)
    (hmb : (m == 0) = zb) (hc : max (-4000) (min 4000 e) = c) (hcl : -4000 ≤ c) (hcu : c ≤ 4000) (hg : m < 9007199254740992) (hg2 : e ≤ -1075)
    (hl0 : 0 ≤ lenI m) (hl1 : lenI m ≤ 64) (hd : (if lenI m - 53 < -1074 - c then -1074 - c else lenI m - 53) = d) (hdl : 0 < d) (hdu : d ≤ 64) (he : -1074 ≤ c + d)
    (hr : IntKind.u64.wrap (m * 2 ^ (64 - d).toNat) = r) (hm2 : m / 2 ^ d.toNat = m2) (k0 : 0 ≤ m2) (k1 : m2 < 9007199254740992) (k2 : m2 < 18446744073709551616) :
    Calls Tryz.prog 101 #[.agg #[.bool neg, .int .u64 m, .int .i64 e], .bool true] w fun e' w' => e' = .returned (.tuple #[.int .u64 (tailI neg r m2 (c + d) true), .int .i64 0]) ∧ Below w.heap.size w w' := by
  go_enter Tryz.func101, Tryz.ntmps101
  go_wp2_with fail
  go_region
  go_wp2_with (first | (go_at_call 153; (with_reducible refine (join_any _ _ _ _ (by omega) (by omega) (by omega) (by omega)).mono ?_); rintro e w' ⟨rfl, rfl⟩) | (go_at_call 135; (with_reducible refine (lz64_any _ _ (by assumption) (by assumption)).mono ?_); rintro e w' ⟨rfl, rfl⟩) | (go_at_call 154; (with_reducible refine (len64_any _ _ (by assumption) (by assumption)).mono ?_); rintro e w' ⟨rfl, rfl⟩) | (go_at_call 155; (with_reducible refine (even_any _ _ _ (by assumption) (by assumption) (by simp)).mono ?_); rintro e w' ⟨rfl, rfl⟩))
  all_goals go_ret2
  all_goals (refine ⟨ret_two ?_ rfl, by (repeat' (first | exact Below.refl _ _ | assumption | (refine below_alloc ?_ _) | (refine Below.setCell ?_ ?_ _) | (refine Below.drew ?_) | (refine below_drewN ?_ _))) <;> (first | (simp; done) | (simp; omega) | omega)⟩; unfold tailI rndI)
  all_goals simp only [beq_iff_eq, beq_eq_false_iff_ne, Bool.not_eq_true', Bool.not_eq_false', ne_eq] at *
  all_goals ((repeat' split) <;> first | rfl | (exfalso; omega) | (exfalso; simp_all; done) | (exfalso; simp_all; omega))

set_option maxHeartbeats 800000 in
theorem round_err (neg : Bool) (m e : Int) (w : World) (h0 : 0 ≤ m) (h1 : m < 9007199254740992) (h2 : -1075 < e) :
    Calls Tryz.prog 101 #[.agg #[.bool neg, .int .u64 m, .int .i64 e], .bool true] w fun e' w' => e' = .returned (.tuple #[.int .u64 0, .int .i64 2]) ∧ Below w.heap.size w w' := by
  go_enter Tryz.func101, Tryz.ntmps101
  go_wp2_with fail
  all_goals go_ret2
  all_goals exact ⟨rfl, by (repeat' (first | exact Below.refl _ _ | assumption | (refine below_alloc ?_ _) | (refine Below.setCell ?_ ?_ _) | (refine Below.drew ?_) | (refine below_drewN ?_ _))) <;> (first | (simp; done) | (simp; omega) | omega)⟩

set_option maxHeartbeats 800000 in
theorem round_zero (neg : Bool) (e : Int) (w : World) :
    Calls Tryz.prog 101 #[.agg #[.bool neg, .int .u64 0, .int .i64 e], .bool false] w fun e' w' => e' = .returned (.tuple #[.int .u64 (joinI neg 0 0), .int .i64 0]) ∧ Below w.heap.size w w' := by
  go_enter Tryz.func101, Tryz.ntmps101
  go_wp2_with fail
  go_region
  go_wp2_with (first | (go_at_call 153; (with_reducible refine (join_any _ _ _ _ (by omega) (by omega) (by omega) (by omega)).mono ?_); rintro e w' ⟨rfl, rfl⟩) | (go_at_call 135; (with_reducible refine (lz64_any _ _ (by assumption) (by assumption)).mono ?_); rintro e w' ⟨rfl, rfl⟩) | (go_at_call 154; (with_reducible refine (len64_any _ _ (by assumption) (by assumption)).mono ?_); rintro e w' ⟨rfl, rfl⟩) | (go_at_call 155; (with_reducible refine (even_any _ _ _ (by assumption) (by assumption) (by simp)).mono ?_); rintro e w' ⟨rfl, rfl⟩))
  all_goals go_ret2
  all_goals exact ⟨rfl, by (repeat' (first | exact Below.refl _ _ | assumption | (refine below_alloc ?_ _) | (refine Below.setCell ?_ ?_ _) | (refine Below.drew ?_) | (refine below_drewN ?_ _))) <;> (first | (simp; done) | (simp; omega) | omega)⟩

set_option maxHeartbeats 2000000 in
theorem round_d0 (neg : Bool) (m e c up m1 : Int) (w : World) (h0 : 0 ≤ m) (h1 : m < 18446744073709551616)
    (hm : (m == 0) = false) (hc : max (-4000) (min 4000 e) = c) (hcl : -4000 ≤ c) (hcu : c ≤ 4000)
    (hup : min (64 - lenI m) (max 0 (c + 1075)) = up) (hul : 0 ≤ up) (huu : up ≤ 64) (hm1 : IntKind.u64.wrap (m * 2 ^ up.toNat) = m1) (g0 : 0 ≤ m1) (g1 : m1 < 18446744073709551616)
    (hl0 : 0 ≤ lenI m1) (hl1 : lenI m1 ≤ 53) (hd : -1074 ≤ c - up) (g2 : m1 < 9007199254740992) :
    Calls Tryz.prog 101 #[.agg #[.bool neg, .int .u64 m, .int .i64 e], .bool false] w fun e' w' => e' = .returned (.tuple #[.int .u64 (joinI neg m1 (c - up)), .int .i64 0]) ∧ Below w.heap.size w w' := by
  have hd' : (if lenI m1 - 53 < -1074 - (c - up) then -1074 - (c - up) else lenI m1 - 53) ≤ 0 := by split <;> omega
  generalize hq : (if lenI m1 - 53 < -1074 - (c - up) then -1074 - (c - up) else lenI m1 - 53) = q at hd'
  have hz : (if q < 0 then 0 else q) = 0 := by split <;> omega
  go_enter Tryz.func101, Tryz.ntmps101
  go_wp2_with fail
  go_region
  go_wp2_with (first | (go_at_call 153; (with_reducible refine (join_any _ _ _ _ (by omega) (by omega) (by omega) (by omega)).mono ?_); rintro e w' ⟨rfl, rfl⟩) | (go_at_call 135; (with_reducible refine (lz64_any _ _ (by assumption) (by assumption)).mono ?_); rintro e w' ⟨rfl, rfl⟩) | (go_at_call 154; (with_reducible refine (len64_any _ _ (by assumption) (by assumption)).mono ?_); rintro e w' ⟨rfl, rfl⟩) | (go_at_call 155; (with_reducible refine (even_any _ _ _ (by assumption) (by assumption) (by simp)).mono ?_); rintro e w' ⟨rfl, rfl⟩))
  all_goals go_ret2
  all_goals exact ⟨rfl, by (repeat' (first | exact Below.refl _ _ | assumption | (refine below_alloc ?_ _) | (refine Below.setCell ?_ ?_ _) | (refine Below.drew ?_) | (refine below_drewN ?_ _))) <;> (first | (simp; done) | (simp; omega) | omega)⟩

set_option maxHeartbeats 2000000 in
theorem round_far_false (neg : Bool) (m e c up m1 q : Int) (w : World) (h0 : 0 ≤ m) (h1 : m < 18446744073709551616)
    (hm : (m == 0) = false) (hc : max (-4000) (min 4000 e) = c) (hcl : -4000 ≤ c) (hcu : c ≤ 4000)
    (hup : min (64 - lenI m) (max 0 (c + 1075)) = up) (hul : 0 ≤ up) (huu : up ≤ 64) (hm1 : IntKind.u64.wrap (m * 2 ^ up.toNat) = m1) (g0 : 0 ≤ m1) (g1 : m1 < 18446744073709551616)
    (hl0 : 0 ≤ lenI m1) (hl1 : lenI m1 ≤ 64) (hq : (if lenI m1 - 53 < -1074 - (c - up) then -1074 - (c - up) else lenI m1 - 53) = q) (hf : 64 < q) :
    Calls Tryz.prog 101 #[.agg #[.bool neg, .int .u64 m, .int .i64 e], .bool false] w fun e' w' => e' = .returned (.tuple #[.int .u64 (joinI neg 0 0), .int .i64 0]) ∧ Below w.heap.size w w' := by
  go_enter Tryz.func101, Tryz.ntmps101
  go_wp2_with fail
  go_region
  go_wp2_with (first | (go_at_call 153; (with_reducible refine (join_any _ _ _ _ (by omega) (by omega) (by omega) (by omega)).mono ?_); rintro e w' ⟨rfl, rfl⟩) | (go_at_call 135; (with_reducible refine (lz64_any _ _ (by assumption) (by assumption)).mono ?_); rintro e w' ⟨rfl, rfl⟩) | (go_at_call 154; (with_reducible refine (len64_any _ _ (by assumption) (by assumption)).mono ?_); rintro e w' ⟨rfl, rfl⟩) | (go_at_call 155; (with_reducible refine (even_any _ _ _ (by assumption) (by assumption) (by simp)).mono ?_); rintro e w' ⟨rfl, rfl⟩))
  all_goals go_ret2
  all_goals exact ⟨rfl, by (repeat' (first | exact Below.refl _ _ | assumption | (refine below_alloc ?_ _) | (refine Below.setCell ?_ ?_ _) | (refine Below.drew ?_) | (refine below_drewN ?_ _))) <;> (first | (simp; done) | (simp; omega) | omega)⟩

set_option maxHeartbeats 2000000 in
theorem round_far_true (neg : Bool) (zb : Bool) (m e c q : Int) (w : World) (h0 : 0 ≤ m) (h1 : m < 18446744073709551616)
    (hmb : (m == 0) = zb) (hc : max (-4000) (min 4000 e) = c) (hcl : -4000 ≤ c) (hcu : c ≤ 4000) (hg : e ≤ -1075) (hl0 : 0 ≤ lenI m) (hl1 : lenI m ≤ 64) (hq : (if lenI m - 53 < -1074 - c then -1074 - c else lenI m - 53) = q) (hf : 64 < q) :
    Calls Tryz.prog 101 #[.agg #[.bool neg, .int .u64 m, .int .i64 e], .bool true] w fun e' w' => e' = .returned (.tuple #[.int .u64 (joinI neg 0 0), .int .i64 0]) ∧ Below w.heap.size w w' := by
  by_cases hs : m < 9007199254740992
  all_goals
    go_enter Tryz.func101, Tryz.ntmps101
    go_wp2_with fail
    go_region
    go_wp2_with (first | (go_at_call 153; (with_reducible refine (join_any _ _ _ _ (by omega) (by omega) (by omega) (by omega)).mono ?_); rintro e w' ⟨rfl, rfl⟩) | (go_at_call 135; (with_reducible refine (lz64_any _ _ (by assumption) (by assumption)).mono ?_); rintro e w' ⟨rfl, rfl⟩) | (go_at_call 154; (with_reducible refine (len64_any _ _ (by assumption) (by assumption)).mono ?_); rintro e w' ⟨rfl, rfl⟩) | (go_at_call 155; (with_reducible refine (even_any _ _ _ (by assumption) (by assumption) (by simp)).mono ?_); rintro e w' ⟨rfl, rfl⟩))
    all_goals go_ret2
    all_goals exact ⟨rfl, by (repeat' (first | exact Below.refl _ _ | assumption | (refine below_alloc ?_ _) | (refine Below.setCell ?_ ?_ _) | (refine Below.drew ?_) | (refine below_drewN ?_ _))) <;> (first | (simp; done) | (simp; omega) | omega)⟩

end Go.Proofs.YtjlaadadbpffdaaGreatDoor
