/-
  Layer 3's laws, walked: DyadBounds (printed by dyadlaws.py).
-/
import Derived.Test.YtjlaadadbpffdaaGreatDoorDyU
import Derived.Deep.RegionHeld3
set_option linter.unusedSimpArgs false
set_option linter.unusedVariables false
namespace Go.Plumb
open Go.RowKit
theorem b_mul1 : mulO ⟨false, 1, 262144⟩ ⟨false, 1, 1⟩ = (zeroD, 3) := mulO_no (X := ⟨false, 1, 262144⟩) (Y := ⟨false, 1, 1⟩) (D := ⟨false, 1, 262145⟩) (R := ⟨false, 1, 262145⟩) (by decide) (by decide) (nrm_o (by decide)) (nrm_o (by decide)) rfl (nrm_o (by decide)) (by decide)
theorem b_mul2 : mulO ⟨false, 1, -262144⟩ ⟨false, 1, -1⟩ = (zeroD, 3) := mulO_no (X := ⟨false, 1, -262144⟩) (Y := ⟨false, 1, -1⟩) (D := ⟨false, 1, -262145⟩) (R := ⟨false, 1, -262145⟩) (by decide) (by decide) (nrm_o (by decide)) (nrm_o (by decide)) rfl (nrm_o (by decide)) (by decide)
theorem b_add1 : addO ⟨false, 1, 262144⟩ ⟨false, 1, -262144⟩ = (zeroD, 3) := addO_far (X := ⟨false, 1, 262144⟩) (Y := ⟨false, 1, -262144⟩) (by decide) (by decide) (nrm_o (by decide)) (nrm_o (by decide)) (by decide)
theorem b_cmp : cmpO ⟨false, 1, 262144⟩ ⟨false, 1, -1⟩ = (0, 3) := cmpO_far (X := ⟨false, 1, 262144⟩) (Y := ⟨false, 1, -1⟩) (by decide) (by decide) (nrm_o (by decide)) (nrm_o (by decide)) (by decide)
theorem b_shift : shiftO ⟨false, 1, 262144⟩ 1 = (zeroD, 3) := by
  unfold shiftO
  rw [if_pos (by decide), if_neg (by decide), nrm_o (by decide)]
  exact doneO_no (R := ⟨false, 1, 262145⟩) (nrm_o (by decide)) (by decide)
theorem b_norm1 : normO ⟨false, 2, 262144⟩ = (zeroD, 3) := normO_no (R := ⟨false, 1, 262145⟩) (by decide) (by rw [nrm_is 1 1 rfl (by decide)]; rfl) (by decide)
theorem b_norm2 : normO ⟨false, 1, 262145⟩ = (zeroD, 2) := by unfold normO; rw [if_neg (by decide)]
theorem b_mul3 : mulO ⟨false, 1, 262144⟩ ⟨false, 0, 0⟩ = (zeroD, 0) := mulO_is (X := ⟨false, 1, 262144⟩) (Y := zeroD) (D := ⟨false, 0, 262144⟩) (by decide) (by decide) (nrm_o (by decide)) (nrm_zero rfl) rfl (nrm_zero rfl) (by decide)
theorem b_add2 : addO ⟨false, 1, 262144⟩ ⟨false, 0, -262144⟩ = (⟨false, 1, 262144⟩, 0) := addO_is (X := ⟨false, 1, 262144⟩) (Y := zeroD) (D := ⟨false, 1, 262144⟩) (by decide) (by decide) (nrm_o (by decide)) (nrm_zero rfl) (by decide) rfl (nrm_o (by decide)) (by decide)
theorem b_norm3 : normO ⟨true, 0, 5⟩ = (zeroD, 0) := normO_is (by decide) (nrm_zero rfl) (by decide)
theorem w_big : nrm (dyW 4845873199050653696) = ⟨false, 1, 53⟩ := by rw [nrm_is 1 52 (by decide) (by decide)]; rfl
def bigM (k : Nat) : Nat := 9007199254740993 * 2 ^ k + 1
def T3 (i : Nat) : Dy := if i = 0 then zeroD else if i = 1 then ⟨false, 1, 53⟩ else if i = 2 then ⟨false, 9007199254740993, 0⟩ else ⟨false, bigM (-(-2000 : Int)).toNat, -2000⟩
theorem bigM_odd (k : Nat) (h : k ≠ 0) : bigM k % 2 = 1 := by
  obtain ⟨j, rfl⟩ : ∃ j, k = j + 1 := ⟨k - 1, by omega⟩
  unfold bigM
  rw [Nat.pow_succ]
  omega
theorem bigM_len (k : Nat) (h : k ≤ 2000) : (limbs (bigM k)).length ≤ 40 := by
  apply length_limbs_le
  unfold bigM
  obtain ⟨j, hj⟩ : ∃ j, j = 40 := ⟨_, rfl⟩
  rw [← hj, powB64]
  have h1 : 2 ^ (k + 54) ≤ 2 ^ (64 * j) := Nat.pow_le_pow_right (by decide) (by omega)
  rw [Nat.pow_add] at h1
  have h2 := Nat.two_pow_pos k
  simp only [Nat.reducePow] at h1
  omega
theorem bigM_div (k : Nat) (h : k ≠ 0) : bigM k / 2 ^ k = 9007199254740993 ∧ bigM k % 2 ^ k ≠ 0 := by
  have h2 : 2 ≤ 2 ^ k := by
    have := Nat.pow_le_pow_right (show 0 < 2 by decide) (show 1 ≤ k by omega)
    omega
  unfold bigM
  generalize 2 ^ k = p at *
  constructor
  · rw [Nat.mul_comm, Nat.mul_add_div (by omega), Nat.div_eq_of_lt (by omega)]
  · rw [Nat.mul_comm, Nat.mul_add_mod, Nat.mod_eq_of_lt (by omega)]; omega
theorem k2000 : (-(-2000 : Int)).toNat = 2000 := by decide
theorem T3_round : rndD (nrm ⟨false, bigM (-(-2000 : Int)).toNat, -2000⟩) = 4845873199050653697 := by
  have hk := k2000
  generalize (-(-2000 : Int)).toNat = k at *
  rw [nrm_o (bigM_odd k (by omega))]
  show roundN false (bigM k) (-2000) = _
  obtain ⟨d1, d2⟩ := bigM_div k (by omega)
  rw [roundN_sticky false (bigM k) (-2000) k (by rw [d1]; decide) d2, d1, hk]
  decide
theorem T3_small : (limbs (bigM (-(-2000 : Int)).toNat)).length ≤ 1000 := Nat.le_trans (bigM_len _ (by rw [k2000]; exact Nat.le_refl _)) (by decide)
theorem T3_len : ∀ i, i ≤ 3 → (limbs (T3 i).m).length ≤ 400 := by
  intro i hi
  have : i = 0 ∨ i = 1 ∨ i = 2 ∨ i = 3 := by omega
  rcases this with rfl | rfl | rfl | rfl
  · show (limbs 0).length ≤ _; rw [limbs_zero]; decide
  · exact Nat.le_trans (len_le_one (x := 1) (by decide)) (by decide)
  · exact Nat.le_trans (len_le_one (x := 9007199254740993) (by decide)) (by decide)
  · exact Nat.le_trans (bigM_len _ (by rw [k2000]; exact Nat.le_refl _)) (by decide)
theorem T2_len : ∀ i, i ≤ 2 → (limbs (T3 i).m).length ≤ 400 := fun i hi => T3_len i (by omega)
theorem s_one : addO zeroD ⟨false, 1, 53⟩ = (⟨false, 1, 53⟩, 0) := addO_is (X := zeroD) (Y := ⟨false, 1, 53⟩) (D := ⟨false, 1, 53⟩) (by decide) (by decide) (nrm_zero rfl) (nrm_o (by decide)) (by decide) rfl (nrm_o (by decide)) (by decide)
theorem s_two : addO ⟨false, 1, 53⟩ ⟨false, 1, 0⟩ = (⟨false, 9007199254740993, 0⟩, 0) := addO_is (X := ⟨false, 1, 53⟩) (Y := ⟨false, 1, 0⟩) (D := ⟨false, 9007199254740993, 0⟩) (by decide) (by decide) (nrm_o (by decide)) (nrm_o (by decide)) (by decide) rfl (nrm_o (by decide)) (by decide)
theorem s_threeG (k : Nat) (E : Int) (hE : E = -(k : Int)) : addD ⟨false, 9007199254740993, 0⟩ ⟨false, 1, E⟩ = ⟨false, bigM k, E⟩ := by
  have hl : lowE ⟨false, 9007199254740993, 0⟩ ⟨false, 1, E⟩ = E := by
    unfold lowE
    rw [if_neg (show ¬ ((9007199254740993 : Nat) = 0) by decide), if_neg (show ¬ ((1 : Nat) = 0) by decide)]
    show min (0 : Int) E = E
    omega
  have e1 : ((0 : Int) - E).toNat = k := by omega
  have e2 : (E - E).toNat = 0 := by omega
  unfold addD
  rw [if_pos rfl, hl]
  unfold atE bigM
  simp only [e1, e2, Nat.pow_zero, Nat.mul_one]
theorem s_three : addO ⟨false, 9007199254740993, 0⟩ ⟨false, 1, -2000⟩ = (⟨false, bigM (-(-2000 : Int)).toNat, -2000⟩, 0) := by
  have h0 : (-(-2000 : Int)).toNat ≠ 0 := by decide
  have h1 : (-2000 : Int) = -(((-(-2000 : Int)).toNat : Nat) : Int) := by decide
  generalize (-(-2000 : Int)).toNat = k at *
  exact addO_is (X := ⟨false, 9007199254740993, 0⟩) (Y := ⟨false, 1, -2000⟩) (D := ⟨false, bigM k, -2000⟩) (by decide) (by decide) (nrm_o (by decide)) (nrm_o (by decide)) (by decide) (s_threeG k _ h1) (nrm_o (bigM_odd _ h0)) (by show mayE (-2000); decide)
theorem T3_stepG (N : Nat) (hN : N ≤ 3) : ∀ i, i < N → addO (T3 i) ⟨false, valL (limbs 1), if i = 0 then 53 else if i = 1 then 0 else -2000⟩ = (T3 (i + 1), 0) ∧ (farD (nrm (T3 i)) (nrm ⟨false, valL (limbs 1), if i = 0 then 53 else if i = 1 then 0 else -2000⟩) ∨ nearD (nrm (T3 i)) (nrm ⟨false, valL (limbs 1), if i = 0 then 53 else if i = 1 then 0 else -2000⟩)) := by
  intro i hi
  rw [valL_limbs]
  have : i = 0 ∨ i = 1 ∨ i = 2 := by omega
  rcases this with rfl | rfl | rfl
  · exact ⟨s_one, .inr (.inl (by rw [nrm_zero (d := T3 0) rfl]; rfl))⟩
  · exact ⟨s_two, near1 (by decide) (by decide) (by decide)⟩
  · exact ⟨s_three, near1 (by decide) (by decide) (by decide)⟩
theorem T3_step : ∀ i, i < 3 → addO (T3 i) ⟨(fun _ => false) i, valL ((fun _ => limbs 1) i), (fun i : Nat => if i = 0 then (53 : Int) else if i = 1 then 0 else -2000) i⟩ = (T3 (i + 1), 0) ∧ (farD (nrm (T3 i)) (nrm ⟨(fun _ => false) i, valL ((fun _ => limbs 1) i), (fun i : Nat => if i = 0 then (53 : Int) else if i = 1 then 0 else -2000) i⟩) ∨ nearD (nrm (T3 i)) (nrm ⟨(fun _ => false) i, valL ((fun _ => limbs 1) i), (fun i : Nat => if i = 0 then (53 : Int) else if i = 1 then 0 else -2000) i⟩)) := T3_stepG 3 (by omega)
theorem T2_step : ∀ i, i < 2 → addO (T3 i) ⟨(fun _ => false) i, valL ((fun _ => limbs 1) i), (fun i : Nat => if i = 0 then (53 : Int) else 0) i⟩ = (T3 (i + 1), 0) ∧ (farD (nrm (T3 i)) (nrm ⟨(fun _ => false) i, valL ((fun _ => limbs 1) i), (fun i : Nat => if i = 0 then (53 : Int) else 0) i⟩) ∨ nearD (nrm (T3 i)) (nrm ⟨(fun _ => false) i, valL ((fun _ => limbs 1) i), (fun i : Nat => if i = 0 then (53 : Int) else 0) i⟩)) := by
  intro i hi
  have h := T3_stepG 2 (by omega) i hi
  have : i = 0 ∨ i = 1 := by omega
  rcases this with rfl | rfl <;> exact h
theorem T3_R : T3 3 = ⟨false, bigM (-(-2000 : Int)).toNat, -2000⟩ := rfl
end Go.Plumb
namespace Go.Proofs.YtjlaadadbpffdaaGreatDoor
open Go.RowKit Go.Plumb

theorem dSum_v (w : World) (g off N C : Nat) (s : Nat → Bool) (a : Nat → Option Addr) (n c : Nat → Nat) (e : Nat → Int) (L : Nat → List Nat) (T : Nat → Dy) {R : Dy} (hT : Tab w) (hN : N ≤ C) (hC : C ≤ maxLen) (hg : g < w.heap.size) (hR : RowD w g off N s a n c e)
    (hL : ∀ i, i < N → Num w (a i) (n i) (c i) (L i) ∧ (L i).length ≤ 400) (hlT : ∀ i, i ≤ N → (limbs (T i).m).length ≤ 400) (h0 : T 0 = zeroD)
    (hst : ∀ i, i < N → addO (T i) ⟨s i, valL (L i), e i⟩ = (T (i + 1), 0) ∧ (farD (nrm (T i)) (nrm ⟨s i, valL (L i), e i⟩) ∨ nearD (nrm (T i)) (nrm ⟨s i, valL (L i), e i⟩))) (hR2 : T N = R) :
    Calls Tryz.prog 60 #[.slice (some ⟨g, off, none⟩) N C] w fun x w' => ∃ a' n' c', x = .returned (.tuple #[.agg #[.bool R.s, .slice a' n' c', .int .i64 R.e], .int .i64 0]) ∧ Num w' a' n' c' (limbs R.m) ∧ Below w.heap.size w w' := by
  subst hR2
  exact dSum_any w g off N C s a n c e L T hT hN hC hg hR hL hlT h0 hst
set_option maxRecDepth 100000 in
set_option maxHeartbeats 4000000 in
theorem w_DyadBounds (w : World) (hT : Tab w) (hQ : PowT Tryz.prog w) :
    Calls Tryz.prog 14 #[] w fun e w' => e = .returned (.bool true) ∧ Below w.heap.size w w' := by
  have HS : Hid (At w w []) := Lib.hid (At.start w)
  go_enter Tryz.func14, Tryz.ntmps14
  go_wp2_with fail
  refine (dHalf_bad 262145 (by decide)).mono ?_
  rintro e w1 ⟨rfl, hb⟩
  replace HS := Lib.hid (HS.out.call (by repeat' (first | exact Below.refl _ _ | refine below_alloc ?_ _)) hb)
  clear hb
  go_wp2_with fail
  refine (lhalf_any (262144) (by decide)).mono ?_
  rintro e w2 ⟨a_h1, n_h1, c_h1, rfl, h0, hb⟩
  have B_a := Lib.hid (Boxed3.later (Boxed3.new w1 (false) none 0 0 (0) 24 (g := w1.heap.size) (by simp)) (by repeat' (first | exact Below.refl _ _ | refine below_alloc ?_ _)) hb)
  replace HS := Lib.hid (HS.out.num (by repeat' (first | exact Below.refl _ _ | refine below_alloc ?_ _)) hb h0)
  have L_h1 := Lib.hid h0.1
  clear hb h0
  go_wp2_with fail
  refine (lhalf_any (1) (by decide)).mono ?_
  rintro e w3 ⟨a_h2, n_h2, c_h2, rfl, h0, hb⟩
  replace B_a := Lib.hid (B_a.out.later (by repeat' (first | exact Below.refl _ _ | refine below_alloc ?_ _)) hb)
  replace HS := Lib.hid (HS.out.num (by repeat' (first | exact Below.refl _ _ | refine below_alloc ?_ _)) hb h0)
  have L_h2 := Lib.hid h0.1
  clear hb h0
  go_wp2_with fail
  refine (dMul_v false false (262144) (1) zeroD 3 (hT.below (below_step HS.out.1 (by repeat' (first | exact Below.refl _ _ | refine below_alloc ?_ _)))) (HS.out.get 1 rfl (by repeat' (first | exact Below.refl _ _ | refine below_alloc ?_ _))) (HS.out.get 0 rfl (by repeat' (first | exact Below.refl _ _ | refine below_alloc ?_ _))) (valL_limbs _) (valL_limbs _) (Nat.le_trans (Nat.add_le_add (len_le_one (by decide)) (len_le_one (by decide))) (by decide)) b_mul1).mono ?_
  rintro e w4 ⟨a_b, n_b, c_b, rfl, h0, hb⟩
  replace B_a := Lib.hid (B_a.out.later (by repeat' (first | exact Below.refl _ _ | refine below_alloc ?_ _)) hb)
  replace HS := Lib.hid (HS.out.num (by repeat' (first | exact Below.refl _ _ | refine below_alloc ?_ _)) hb h0)
  have L_b := Lib.hid h0.1
  clear hb h0
  go_wp2_with fail
  refine (lhalf_any (-262144) (by decide)).mono ?_
  rintro e w5 ⟨a_h3, n_h3, c_h3, rfl, h0, hb⟩
  replace B_a := Lib.hid (B_a.out.later (by repeat' (first | exact Below.refl _ _ | refine below_alloc ?_ _)) hb)
  have B_b := Lib.hid (Boxed3.later (Boxed3.new w4 (false) a_b n_b c_b (0) 24 (g := w4.heap.size) (by simp)) (by repeat' (first | exact Below.refl _ _ | refine below_alloc ?_ _)) hb)
  replace HS := Lib.hid (HS.out.num (by repeat' (first | exact Below.refl _ _ | refine below_alloc ?_ _)) hb h0)
  have L_h3 := Lib.hid h0.1
  clear hb h0
  go_wp2_with fail
  refine (lhalf_any (-1) (by decide)).mono ?_
  rintro e w6 ⟨a_h4, n_h4, c_h4, rfl, h0, hb⟩
  replace B_a := Lib.hid (B_a.out.later (by repeat' (first | exact Below.refl _ _ | refine below_alloc ?_ _)) hb)
  replace B_b := Lib.hid (B_b.out.later (by repeat' (first | exact Below.refl _ _ | refine below_alloc ?_ _)) hb)
  replace HS := Lib.hid (HS.out.num (by repeat' (first | exact Below.refl _ _ | refine below_alloc ?_ _)) hb h0)
  have L_h4 := Lib.hid h0.1
  clear hb h0
  go_wp2_with fail
  refine (dMul_v false false (-262144) (-1) zeroD 3 (hT.below (below_step HS.out.1 (by repeat' (first | exact Below.refl _ _ | refine below_alloc ?_ _)))) (HS.out.get 1 rfl (by repeat' (first | exact Below.refl _ _ | refine below_alloc ?_ _))) (HS.out.get 0 rfl (by repeat' (first | exact Below.refl _ _ | refine below_alloc ?_ _))) (valL_limbs _) (valL_limbs _) (Nat.le_trans (Nat.add_le_add (len_le_one (by decide)) (len_le_one (by decide))) (by decide)) b_mul2).mono ?_
  rintro e w7 ⟨a_c, n_c, c_c, rfl, h0, hb⟩
  replace B_a := Lib.hid (B_a.out.later (by repeat' (first | exact Below.refl _ _ | refine below_alloc ?_ _)) hb)
  replace B_b := Lib.hid (B_b.out.later (by repeat' (first | exact Below.refl _ _ | refine below_alloc ?_ _)) hb)
  replace HS := Lib.hid (HS.out.num (by repeat' (first | exact Below.refl _ _ | refine below_alloc ?_ _)) hb h0)
  have L_c := Lib.hid h0.1
  clear hb h0
  go_wp2_with fail
  refine (lhalf_any (262144) (by decide)).mono ?_
  rintro e w8 ⟨a_h5, n_h5, c_h5, rfl, h0, hb⟩
  replace B_a := Lib.hid (B_a.out.later (by repeat' (first | exact Below.refl _ _ | refine below_alloc ?_ _)) hb)
  replace B_b := Lib.hid (B_b.out.later (by repeat' (first | exact Below.refl _ _ | refine below_alloc ?_ _)) hb)
  have B_c := Lib.hid (Boxed3.later (Boxed3.new w7 (false) a_c n_c c_c (0) 24 (g := w7.heap.size) (by simp)) (by repeat' (first | exact Below.refl _ _ | refine below_alloc ?_ _)) hb)
  replace HS := Lib.hid (HS.out.num (by repeat' (first | exact Below.refl _ _ | refine below_alloc ?_ _)) hb h0)
  have L_h5 := Lib.hid h0.1
  clear hb h0
  go_wp2_with fail
  refine (lhalf_any (-262144) (by decide)).mono ?_
  rintro e w9 ⟨a_h6, n_h6, c_h6, rfl, h0, hb⟩
  replace B_a := Lib.hid (B_a.out.later (by repeat' (first | exact Below.refl _ _ | refine below_alloc ?_ _)) hb)
  replace B_b := Lib.hid (B_b.out.later (by repeat' (first | exact Below.refl _ _ | refine below_alloc ?_ _)) hb)
  replace B_c := Lib.hid (B_c.out.later (by repeat' (first | exact Below.refl _ _ | refine below_alloc ?_ _)) hb)
  replace HS := Lib.hid (HS.out.num (by repeat' (first | exact Below.refl _ _ | refine below_alloc ?_ _)) hb h0)
  have L_h6 := Lib.hid h0.1
  clear hb h0
  go_wp2_with fail
  refine (dAdd_v false false (262144) (-262144) zeroD 3 (hT.below (below_step HS.out.1 (by repeat' (first | exact Below.refl _ _ | refine below_alloc ?_ _)))) (HS.out.get 1 rfl (by repeat' (first | exact Below.refl _ _ | refine below_alloc ?_ _))) (HS.out.get 0 rfl (by repeat' (first | exact Below.refl _ _ | refine below_alloc ?_ _))) (valL_limbs _) (valL_limbs _) (Nat.le_trans (Nat.add_le_add (len_le_one (by decide)) (len_le_one (by decide))) (by decide)) (.inl (by rw [nrm_o (by decide), nrm_o (by decide)]; decide)) b_add1).mono ?_
  rintro e w10 ⟨a_d, n_d, c_d, rfl, h0, hb⟩
  replace B_a := Lib.hid (B_a.out.later (by repeat' (first | exact Below.refl _ _ | refine below_alloc ?_ _)) hb)
  replace B_b := Lib.hid (B_b.out.later (by repeat' (first | exact Below.refl _ _ | refine below_alloc ?_ _)) hb)
  replace B_c := Lib.hid (B_c.out.later (by repeat' (first | exact Below.refl _ _ | refine below_alloc ?_ _)) hb)
  replace HS := Lib.hid (HS.out.num (by repeat' (first | exact Below.refl _ _ | refine below_alloc ?_ _)) hb h0)
  have L_d := Lib.hid h0.1
  clear hb h0
  go_wp2_with fail
  refine (lhalf_any (262144) (by decide)).mono ?_
  rintro e w11 ⟨a_h7, n_h7, c_h7, rfl, h0, hb⟩
  replace B_a := Lib.hid (B_a.out.later (by repeat' (first | exact Below.refl _ _ | refine below_alloc ?_ _)) hb)
  replace B_b := Lib.hid (B_b.out.later (by repeat' (first | exact Below.refl _ _ | refine below_alloc ?_ _)) hb)
  replace B_c := Lib.hid (B_c.out.later (by repeat' (first | exact Below.refl _ _ | refine below_alloc ?_ _)) hb)
  have B_d := Lib.hid (Boxed3.later (Boxed3.new w10 (false) a_d n_d c_d (0) 24 (g := w10.heap.size) (by simp)) (by repeat' (first | exact Below.refl _ _ | refine below_alloc ?_ _)) hb)
  replace HS := Lib.hid (HS.out.num (by repeat' (first | exact Below.refl _ _ | refine below_alloc ?_ _)) hb h0)
  have L_h7 := Lib.hid h0.1
  clear hb h0
  go_wp2_with fail
  refine (lhalf_any (-1) (by decide)).mono ?_
  rintro e w12 ⟨a_h8, n_h8, c_h8, rfl, h0, hb⟩
  replace B_a := Lib.hid (B_a.out.later (by repeat' (first | exact Below.refl _ _ | refine below_alloc ?_ _)) hb)
  replace B_b := Lib.hid (B_b.out.later (by repeat' (first | exact Below.refl _ _ | refine below_alloc ?_ _)) hb)
  replace B_c := Lib.hid (B_c.out.later (by repeat' (first | exact Below.refl _ _ | refine below_alloc ?_ _)) hb)
  replace B_d := Lib.hid (B_d.out.later (by repeat' (first | exact Below.refl _ _ | refine below_alloc ?_ _)) hb)
  replace HS := Lib.hid (HS.out.num (by repeat' (first | exact Below.refl _ _ | refine below_alloc ?_ _)) hb h0)
  have L_h8 := Lib.hid h0.1
  clear hb h0
  go_wp2_with fail
  refine (dCmp_v false false 262144 (-1) 0 3 (hT.below (below_step HS.out.1 (by repeat' (first | exact Below.refl _ _ | refine below_alloc ?_ _)))) (HS.out.get 1 rfl (by repeat' (first | exact Below.refl _ _ | refine below_alloc ?_ _))) (HS.out.get 0 rfl (by repeat' (first | exact Below.refl _ _ | refine below_alloc ?_ _))) (valL_limbs _) (valL_limbs _) (Nat.le_trans (Nat.add_le_add (len_le_one (by decide)) (len_le_one (by decide))) (by decide)) (by decide) (by decide) (.inl (by rw [nrm_o (by decide), nrm_o (by decide)]; decide)) b_cmp).mono ?_
  rintro e w13 ⟨rfl, hb⟩
  replace B_a := Lib.hid (B_a.out.later (by repeat' (first | exact Below.refl _ _ | refine below_alloc ?_ _)) hb)
  replace B_b := Lib.hid (B_b.out.later (by repeat' (first | exact Below.refl _ _ | refine below_alloc ?_ _)) hb)
  replace B_c := Lib.hid (B_c.out.later (by repeat' (first | exact Below.refl _ _ | refine below_alloc ?_ _)) hb)
  replace B_d := Lib.hid (B_d.out.later (by repeat' (first | exact Below.refl _ _ | refine below_alloc ?_ _)) hb)
  replace HS := Lib.hid (HS.out.call (by repeat' (first | exact Below.refl _ _ | refine below_alloc ?_ _)) hb)
  clear hb
  go_wp2_with fail
  refine (lhalf_any (262144) (by decide)).mono ?_
  rintro e w14 ⟨a_h9, n_h9, c_h9, rfl, h0, hb⟩
  replace B_a := Lib.hid (B_a.out.later (by repeat' (first | exact Below.refl _ _ | refine below_alloc ?_ _)) hb)
  replace B_b := Lib.hid (B_b.out.later (by repeat' (first | exact Below.refl _ _ | refine below_alloc ?_ _)) hb)
  replace B_c := Lib.hid (B_c.out.later (by repeat' (first | exact Below.refl _ _ | refine below_alloc ?_ _)) hb)
  replace B_d := Lib.hid (B_d.out.later (by repeat' (first | exact Below.refl _ _ | refine below_alloc ?_ _)) hb)
  replace HS := Lib.hid (HS.out.num (by repeat' (first | exact Below.refl _ _ | refine below_alloc ?_ _)) hb h0)
  have L_h9 := Lib.hid h0.1
  clear hb h0
  go_wp2_with fail
  refine (dShift_v false 262144 1 zeroD 3 (by decide) (by decide) (hT.below (below_step HS.out.1 (by repeat' (first | exact Below.refl _ _ | refine below_alloc ?_ _)))) (HS.out.get 0 rfl (by repeat' (first | exact Below.refl _ _ | refine below_alloc ?_ _))) (valL_limbs _) (Nat.le_trans (len_le_one (by decide)) (by decide)) b_shift).mono ?_
  rintro e w15 ⟨a_f, n_f, c_f, rfl, h0, hb⟩
  replace B_a := Lib.hid (B_a.out.later (by repeat' (first | exact Below.refl _ _ | refine below_alloc ?_ _)) hb)
  replace B_b := Lib.hid (B_b.out.later (by repeat' (first | exact Below.refl _ _ | refine below_alloc ?_ _)) hb)
  replace B_c := Lib.hid (B_c.out.later (by repeat' (first | exact Below.refl _ _ | refine below_alloc ?_ _)) hb)
  replace B_d := Lib.hid (B_d.out.later (by repeat' (first | exact Below.refl _ _ | refine below_alloc ?_ _)) hb)
  replace HS := Lib.hid (HS.out.num (by repeat' (first | exact Below.refl _ _ | refine below_alloc ?_ _)) hb h0)
  have L_f := Lib.hid h0.1
  clear hb h0
  go_wp2_with fail
  refine (dNorm_v (M := 2) (l := [2]) false 262144 zeroD 3 (hT.below (below_step HS.out.1 (by repeat' (first | exact Below.refl _ _ | refine below_alloc ?_ _)))) (by first | exact num_one (x := 2) (by first | rfl | (simp; done)) (by decide) | exact (num_one (x := 2) (by first | rfl | (simp; done)) (by decide)).below (by repeat' (first | exact Below.refl _ _ | refine below_alloc ?_ _))) (by simp [valL]) (by decide) b_norm1).mono ?_
  rintro e w16 ⟨a_g, n_g, c_g, rfl, h0, hb⟩
  replace B_a := Lib.hid (B_a.out.later (by repeat' (first | exact Below.refl _ _ | refine below_alloc ?_ _)) hb)
  replace B_b := Lib.hid (B_b.out.later (by repeat' (first | exact Below.refl _ _ | refine below_alloc ?_ _)) hb)
  replace B_c := Lib.hid (B_c.out.later (by repeat' (first | exact Below.refl _ _ | refine below_alloc ?_ _)) hb)
  replace B_d := Lib.hid (B_d.out.later (by repeat' (first | exact Below.refl _ _ | refine below_alloc ?_ _)) hb)
  have B_f := Lib.hid (Boxed3.later (Boxed3.new w15 (false) a_f n_f c_f (0) 24 (g := w15.heap.size) (by simp)) (by repeat' (first | exact Below.refl _ _ | refine below_alloc ?_ _)) hb)
  replace HS := Lib.hid (HS.out.num (by repeat' (first | exact Below.refl _ _ | refine below_alloc ?_ _)) hb h0)
  have L_g := Lib.hid h0.1
  clear hb h0
  go_wp2_with fail
  refine (dNorm_v (M := 1) (l := [1]) false 262145 zeroD 2 (hT.below (below_step HS.out.1 (by repeat' (first | exact Below.refl _ _ | refine below_alloc ?_ _)))) (by first | exact num_one (x := 1) (by first | rfl | (simp; done)) (by decide) | exact (num_one (x := 1) (by first | rfl | (simp; done)) (by decide)).below (by repeat' (first | exact Below.refl _ _ | refine below_alloc ?_ _))) (by simp [valL]) (by decide) b_norm2).mono ?_
  rintro e w17 ⟨a_h, n_h, c_h, rfl, h0, hb⟩
  replace B_a := Lib.hid (B_a.out.later (by repeat' (first | exact Below.refl _ _ | refine below_alloc ?_ _)) hb)
  replace B_b := Lib.hid (B_b.out.later (by repeat' (first | exact Below.refl _ _ | refine below_alloc ?_ _)) hb)
  replace B_c := Lib.hid (B_c.out.later (by repeat' (first | exact Below.refl _ _ | refine below_alloc ?_ _)) hb)
  replace B_d := Lib.hid (B_d.out.later (by repeat' (first | exact Below.refl _ _ | refine below_alloc ?_ _)) hb)
  replace B_f := Lib.hid (B_f.out.later (by repeat' (first | exact Below.refl _ _ | refine below_alloc ?_ _)) hb)
  have B_g := Lib.hid (Boxed3.later (Boxed3.new w16 (false) a_g n_g c_g (0) 24 (g := w16.heap.size) (by simp)) (by repeat' (first | exact Below.refl _ _ | refine below_alloc ?_ _)) hb)
  replace HS := Lib.hid (HS.out.num (by repeat' (first | exact Below.refl _ _ | refine below_alloc ?_ _)) hb h0)
  have L_h := Lib.hid h0.1
  clear hb h0
  go_wp2_with fail
  refine (lhalf_any (262144) (by decide)).mono ?_
  rintro e w18 ⟨a_k1, n_k1, c_k1, rfl, h0, hb⟩
  replace B_a := Lib.hid (B_a.out.later (by repeat' (first | exact Below.refl _ _ | refine below_alloc ?_ _)) hb)
  replace B_b := Lib.hid (B_b.out.later (by repeat' (first | exact Below.refl _ _ | refine below_alloc ?_ _)) hb)
  replace B_c := Lib.hid (B_c.out.later (by repeat' (first | exact Below.refl _ _ | refine below_alloc ?_ _)) hb)
  replace B_d := Lib.hid (B_d.out.later (by repeat' (first | exact Below.refl _ _ | refine below_alloc ?_ _)) hb)
  replace B_f := Lib.hid (B_f.out.later (by repeat' (first | exact Below.refl _ _ | refine below_alloc ?_ _)) hb)
  replace B_g := Lib.hid (B_g.out.later (by repeat' (first | exact Below.refl _ _ | refine below_alloc ?_ _)) hb)
  have B_h := Lib.hid (Boxed3.later (Boxed3.new w17 (false) a_h n_h c_h (0) 24 (g := w17.heap.size) (by simp)) (by repeat' (first | exact Below.refl _ _ | refine below_alloc ?_ _)) hb)
  replace HS := Lib.hid (HS.out.num (by repeat' (first | exact Below.refl _ _ | refine below_alloc ?_ _)) hb h0)
  have L_k1 := Lib.hid h0.1
  clear hb h0
  go_wp2_with fail
  refine (dMul_v false false 262144 0 zeroD 0 (hT.below (below_step HS.out.1 (by repeat' (first | exact Below.refl _ _ | refine below_alloc ?_ _)))) (HS.out.get 0 rfl (by repeat' (first | exact Below.refl _ _ | refine below_alloc ?_ _))) (Num.nil _) (valL_limbs _) rfl (by have := len_le_one (x := 1) (by decide); simp; omega) b_mul3).mono ?_
  rintro e w19 ⟨a_z, n_z, c_z, rfl, h0, hb⟩
  replace B_a := Lib.hid (B_a.out.later (by repeat' (first | exact Below.refl _ _ | refine below_alloc ?_ _)) hb)
  replace B_b := Lib.hid (B_b.out.later (by repeat' (first | exact Below.refl _ _ | refine below_alloc ?_ _)) hb)
  replace B_c := Lib.hid (B_c.out.later (by repeat' (first | exact Below.refl _ _ | refine below_alloc ?_ _)) hb)
  replace B_d := Lib.hid (B_d.out.later (by repeat' (first | exact Below.refl _ _ | refine below_alloc ?_ _)) hb)
  replace B_f := Lib.hid (B_f.out.later (by repeat' (first | exact Below.refl _ _ | refine below_alloc ?_ _)) hb)
  replace B_g := Lib.hid (B_g.out.later (by repeat' (first | exact Below.refl _ _ | refine below_alloc ?_ _)) hb)
  replace B_h := Lib.hid (B_h.out.later (by repeat' (first | exact Below.refl _ _ | refine below_alloc ?_ _)) hb)
  replace HS := Lib.hid (HS.out.num (by repeat' (first | exact Below.refl _ _ | refine below_alloc ?_ _)) hb h0)
  have L_z := Lib.hid h0.1
  clear hb h0
  go_wp2_with fail
  refine (lhalf_any (262144) (by decide)).mono ?_
  rintro e w20 ⟨a_k2, n_k2, c_k2, rfl, h0, hb⟩
  replace B_a := Lib.hid (B_a.out.later (by repeat' (first | exact Below.refl _ _ | refine below_alloc ?_ _)) hb)
  replace B_b := Lib.hid (B_b.out.later (by repeat' (first | exact Below.refl _ _ | refine below_alloc ?_ _)) hb)
  replace B_c := Lib.hid (B_c.out.later (by repeat' (first | exact Below.refl _ _ | refine below_alloc ?_ _)) hb)
  replace B_d := Lib.hid (B_d.out.later (by repeat' (first | exact Below.refl _ _ | refine below_alloc ?_ _)) hb)
  replace B_f := Lib.hid (B_f.out.later (by repeat' (first | exact Below.refl _ _ | refine below_alloc ?_ _)) hb)
  replace B_g := Lib.hid (B_g.out.later (by repeat' (first | exact Below.refl _ _ | refine below_alloc ?_ _)) hb)
  replace B_h := Lib.hid (B_h.out.later (by repeat' (first | exact Below.refl _ _ | refine below_alloc ?_ _)) hb)
  have B_z := Lib.hid (Boxed3.later (Boxed3.new w19 (false) a_z n_z c_z (0) 24 (g := w19.heap.size) (by simp)) (by repeat' (first | exact Below.refl _ _ | refine below_alloc ?_ _)) hb)
  replace HS := Lib.hid (HS.out.num (by repeat' (first | exact Below.refl _ _ | refine below_alloc ?_ _)) hb h0)
  have L_k2 := Lib.hid h0.1
  clear hb h0
  go_wp2_with fail
  refine (dAdd_v false false 262144 (-262144) ⟨false, 1, 262144⟩ 0 (hT.below (below_step HS.out.1 (by repeat' (first | exact Below.refl _ _ | refine below_alloc ?_ _)))) (HS.out.get 0 rfl (by repeat' (first | exact Below.refl _ _ | refine below_alloc ?_ _))) (Num.nil _) (valL_limbs _) rfl (by have := len_le_one (x := 1) (by decide); simp; omega) (.inr (.inr (.inl (by rw [nrm_zero (by rfl)]; rfl)))) b_add2).mono ?_
  rintro e w21 ⟨a_s, n_s, c_s, rfl, h0, hb⟩
  replace B_a := Lib.hid (B_a.out.later (by repeat' (first | exact Below.refl _ _ | refine below_alloc ?_ _)) hb)
  replace B_b := Lib.hid (B_b.out.later (by repeat' (first | exact Below.refl _ _ | refine below_alloc ?_ _)) hb)
  replace B_c := Lib.hid (B_c.out.later (by repeat' (first | exact Below.refl _ _ | refine below_alloc ?_ _)) hb)
  replace B_d := Lib.hid (B_d.out.later (by repeat' (first | exact Below.refl _ _ | refine below_alloc ?_ _)) hb)
  replace B_f := Lib.hid (B_f.out.later (by repeat' (first | exact Below.refl _ _ | refine below_alloc ?_ _)) hb)
  replace B_g := Lib.hid (B_g.out.later (by repeat' (first | exact Below.refl _ _ | refine below_alloc ?_ _)) hb)
  replace B_h := Lib.hid (B_h.out.later (by repeat' (first | exact Below.refl _ _ | refine below_alloc ?_ _)) hb)
  replace B_z := Lib.hid (B_z.out.later (by repeat' (first | exact Below.refl _ _ | refine below_alloc ?_ _)) hb)
  replace HS := Lib.hid (HS.out.num (by repeat' (first | exact Below.refl _ _ | refine below_alloc ?_ _)) hb h0)
  have L_s := Lib.hid h0.1
  clear hb h0
  go_wp2_with fail
  refine (lof_v 4845873199050653696 (by decide) (by decide) w_big (hT.below (below_step HS.out.1 (by repeat' (first | exact Below.refl _ _ | refine below_alloc ?_ _))))).mono ?_
  rintro e w22 ⟨a_o1, n_o1, c_o1, rfl, h0, hb⟩
  replace B_a := Lib.hid (B_a.out.later (by repeat' (first | exact Below.refl _ _ | refine below_alloc ?_ _)) hb)
  replace B_b := Lib.hid (B_b.out.later (by repeat' (first | exact Below.refl _ _ | refine below_alloc ?_ _)) hb)
  replace B_c := Lib.hid (B_c.out.later (by repeat' (first | exact Below.refl _ _ | refine below_alloc ?_ _)) hb)
  replace B_d := Lib.hid (B_d.out.later (by repeat' (first | exact Below.refl _ _ | refine below_alloc ?_ _)) hb)
  replace B_f := Lib.hid (B_f.out.later (by repeat' (first | exact Below.refl _ _ | refine below_alloc ?_ _)) hb)
  replace B_g := Lib.hid (B_g.out.later (by repeat' (first | exact Below.refl _ _ | refine below_alloc ?_ _)) hb)
  replace B_h := Lib.hid (B_h.out.later (by repeat' (first | exact Below.refl _ _ | refine below_alloc ?_ _)) hb)
  replace B_z := Lib.hid (B_z.out.later (by repeat' (first | exact Below.refl _ _ | refine below_alloc ?_ _)) hb)
  have B_s := Lib.hid (Boxed3.later (Boxed3.new w21 (false) a_s n_s c_s (262144) 24 (g := w21.heap.size) (by simp)) (by repeat' (first | exact Below.refl _ _ | refine below_alloc ?_ _)) hb)
  replace HS := Lib.hid (HS.out.num (by repeat' (first | exact Below.refl _ _ | refine below_alloc ?_ _)) hb h0)
  have L_o1 := Lib.hid h0.1
  clear hb h0
  go_wp2_with fail
  refine (lhalf_any (0) (by decide)).mono ?_
  rintro e w23 ⟨a_o2, n_o2, c_o2, rfl, h0, hb⟩
  replace B_a := Lib.hid (B_a.out.later (by repeat' (first | exact Below.refl _ _ | refine below_alloc ?_ _)) hb)
  replace B_b := Lib.hid (B_b.out.later (by repeat' (first | exact Below.refl _ _ | refine below_alloc ?_ _)) hb)
  replace B_c := Lib.hid (B_c.out.later (by repeat' (first | exact Below.refl _ _ | refine below_alloc ?_ _)) hb)
  replace B_d := Lib.hid (B_d.out.later (by repeat' (first | exact Below.refl _ _ | refine below_alloc ?_ _)) hb)
  replace B_f := Lib.hid (B_f.out.later (by repeat' (first | exact Below.refl _ _ | refine below_alloc ?_ _)) hb)
  replace B_g := Lib.hid (B_g.out.later (by repeat' (first | exact Below.refl _ _ | refine below_alloc ?_ _)) hb)
  replace B_h := Lib.hid (B_h.out.later (by repeat' (first | exact Below.refl _ _ | refine below_alloc ?_ _)) hb)
  replace B_z := Lib.hid (B_z.out.later (by repeat' (first | exact Below.refl _ _ | refine below_alloc ?_ _)) hb)
  replace B_s := Lib.hid (B_s.out.later (by repeat' (first | exact Below.refl _ _ | refine below_alloc ?_ _)) hb)
  replace HS := Lib.hid (HS.out.num (by repeat' (first | exact Below.refl _ _ | refine below_alloc ?_ _)) hb h0)
  have L_o2 := Lib.hid h0.1
  clear hb h0
  go_wp2_with fail
  refine (lhalf_any (-2000) (by decide)).mono ?_
  rintro e w24 ⟨a_o3, n_o3, c_o3, rfl, h0, hb⟩
  replace B_a := Lib.hid (B_a.out.later (by repeat' (first | exact Below.refl _ _ | refine below_alloc ?_ _)) hb)
  replace B_b := Lib.hid (B_b.out.later (by repeat' (first | exact Below.refl _ _ | refine below_alloc ?_ _)) hb)
  replace B_c := Lib.hid (B_c.out.later (by repeat' (first | exact Below.refl _ _ | refine below_alloc ?_ _)) hb)
  replace B_d := Lib.hid (B_d.out.later (by repeat' (first | exact Below.refl _ _ | refine below_alloc ?_ _)) hb)
  replace B_f := Lib.hid (B_f.out.later (by repeat' (first | exact Below.refl _ _ | refine below_alloc ?_ _)) hb)
  replace B_g := Lib.hid (B_g.out.later (by repeat' (first | exact Below.refl _ _ | refine below_alloc ?_ _)) hb)
  replace B_h := Lib.hid (B_h.out.later (by repeat' (first | exact Below.refl _ _ | refine below_alloc ?_ _)) hb)
  replace B_z := Lib.hid (B_z.out.later (by repeat' (first | exact Below.refl _ _ | refine below_alloc ?_ _)) hb)
  replace B_s := Lib.hid (B_s.out.later (by repeat' (first | exact Below.refl _ _ | refine below_alloc ?_ _)) hb)
  replace HS := Lib.hid (HS.out.num (by repeat' (first | exact Below.refl _ _ | refine below_alloc ?_ _)) hb h0)
  have L_o3 := Lib.hid h0.1
  clear hb h0
  go_wp2_with fail
  have hrow : RowD (w24.alloc (.cells #[.bool false, .slice a_o1 n_o1 c_o1, .int .i64 (53), .bool false, .slice a_o2 n_o2 c_o2, .int .i64 (0), .bool false, .slice a_o3 n_o3 c_o3, .int .i64 (-2000)] 24)) w24.heap.size 0 3 (fun _ => false) (fun i => if i = 0 then a_o1 else if i = 1 then a_o2 else a_o3) (fun i => if i = 0 then n_o1 else if i = 1 then n_o2 else n_o3) (fun i => if i = 0 then c_o1 else if i = 1 then c_o2 else c_o3) (fun i => if i = 0 then (53) else if i = 1 then (0) else (-2000)) := by
    intro i hi
    have : i = 0 ∨ i = 1 ∨ i = 2 := by omega
    rcases this with rfl | rfl | rfl <;> exact ⟨World.cell?_alloc_at (hn := rfl) .., World.cell?_alloc_at (hn := rfl) .., World.cell?_alloc_at (hn := rfl) ..⟩
  have hnum : ∀ i, i < 3 → Num (w24.alloc (.cells #[.bool false, .slice a_o1 n_o1 c_o1, .int .i64 (53), .bool false, .slice a_o2 n_o2 c_o2, .int .i64 (0), .bool false, .slice a_o3 n_o3 c_o3, .int .i64 (-2000)] 24)) ((fun i => if i = 0 then a_o1 else if i = 1 then a_o2 else a_o3) i) ((fun i => if i = 0 then n_o1 else if i = 1 then n_o2 else n_o3) i) ((fun i => if i = 0 then c_o1 else if i = 1 then c_o2 else c_o3) i) ((fun _ => limbs 1) i) ∧ ((fun _ => limbs 1) i).length ≤ 400 := by
    intro i hi
    have : i = 0 ∨ i = 1 ∨ i = 2 := by omega
    refine ⟨?_, by show (limbs 1).length ≤ 400; rw [limbs_o]; decide⟩
    rcases this with rfl | rfl | rfl
    · exact (HS.out.get 2 rfl (by repeat' (first | exact Below.refl _ _ | refine below_alloc ?_ _)))
    · exact (HS.out.get 1 rfl (by repeat' (first | exact Below.refl _ _ | refine below_alloc ?_ _)))
    · exact (HS.out.get 0 rfl (by repeat' (first | exact Below.refl _ _ | refine below_alloc ?_ _)))
  skip
  refine (dSum_v _ _ 0 3 3 _ _ _ _ _ _ T3 (hT.below (below_step HS.out.1 (by repeat' (first | exact Below.refl _ _ | refine below_alloc ?_ _)))) (Nat.le_refl _) (by unfold maxLen; omega) (by simp) (by simpa using hrow) (by simpa using hnum) T3_len rfl T3_step T3_R).mono ?_
  rintro e w25 ⟨a_t, n_t, c_t, rfl, h0, hb⟩
  replace B_a := Lib.hid (B_a.out.later (by repeat' (first | exact Below.refl _ _ | refine below_alloc ?_ _)) hb)
  replace B_b := Lib.hid (B_b.out.later (by repeat' (first | exact Below.refl _ _ | refine below_alloc ?_ _)) hb)
  replace B_c := Lib.hid (B_c.out.later (by repeat' (first | exact Below.refl _ _ | refine below_alloc ?_ _)) hb)
  replace B_d := Lib.hid (B_d.out.later (by repeat' (first | exact Below.refl _ _ | refine below_alloc ?_ _)) hb)
  replace B_f := Lib.hid (B_f.out.later (by repeat' (first | exact Below.refl _ _ | refine below_alloc ?_ _)) hb)
  replace B_g := Lib.hid (B_g.out.later (by repeat' (first | exact Below.refl _ _ | refine below_alloc ?_ _)) hb)
  replace B_h := Lib.hid (B_h.out.later (by repeat' (first | exact Below.refl _ _ | refine below_alloc ?_ _)) hb)
  replace B_z := Lib.hid (B_z.out.later (by repeat' (first | exact Below.refl _ _ | refine below_alloc ?_ _)) hb)
  replace B_s := Lib.hid (B_s.out.later (by repeat' (first | exact Below.refl _ _ | refine below_alloc ?_ _)) hb)
  replace HS := Lib.hid (HS.out.num (by repeat' (first | exact Below.refl _ _ | refine below_alloc ?_ _)) hb h0)
  have L_t := Lib.hid h0.1
  clear hb h0
  clear hrow hnum
  go_wp2_with fail
  refine (lof_v 4845873199050653696 (by decide) (by decide) w_big (hT.below (below_step HS.out.1 (by repeat' (first | exact Below.refl _ _ | refine below_alloc ?_ _))))).mono ?_
  rintro e w26 ⟨a_o4, n_o4, c_o4, rfl, h0, hb⟩
  replace B_a := Lib.hid (B_a.out.later (by repeat' (first | exact Below.refl _ _ | refine below_alloc ?_ _)) hb)
  replace B_b := Lib.hid (B_b.out.later (by repeat' (first | exact Below.refl _ _ | refine below_alloc ?_ _)) hb)
  replace B_c := Lib.hid (B_c.out.later (by repeat' (first | exact Below.refl _ _ | refine below_alloc ?_ _)) hb)
  replace B_d := Lib.hid (B_d.out.later (by repeat' (first | exact Below.refl _ _ | refine below_alloc ?_ _)) hb)
  replace B_f := Lib.hid (B_f.out.later (by repeat' (first | exact Below.refl _ _ | refine below_alloc ?_ _)) hb)
  replace B_g := Lib.hid (B_g.out.later (by repeat' (first | exact Below.refl _ _ | refine below_alloc ?_ _)) hb)
  replace B_h := Lib.hid (B_h.out.later (by repeat' (first | exact Below.refl _ _ | refine below_alloc ?_ _)) hb)
  replace B_z := Lib.hid (B_z.out.later (by repeat' (first | exact Below.refl _ _ | refine below_alloc ?_ _)) hb)
  replace B_s := Lib.hid (B_s.out.later (by repeat' (first | exact Below.refl _ _ | refine below_alloc ?_ _)) hb)
  have B_t := Lib.hid (Boxed3.later (Boxed3.new w25 (false) a_t n_t c_t (-2000) 24 (g := w25.heap.size) (by simp)) (by repeat' (first | exact Below.refl _ _ | refine below_alloc ?_ _)) hb)
  replace HS := Lib.hid (HS.out.num (by repeat' (first | exact Below.refl _ _ | refine below_alloc ?_ _)) hb h0)
  have L_o4 := Lib.hid h0.1
  clear hb h0
  go_wp2_with fail
  refine (lhalf_any (0) (by decide)).mono ?_
  rintro e w27 ⟨a_o5, n_o5, c_o5, rfl, h0, hb⟩
  replace B_a := Lib.hid (B_a.out.later (by repeat' (first | exact Below.refl _ _ | refine below_alloc ?_ _)) hb)
  replace B_b := Lib.hid (B_b.out.later (by repeat' (first | exact Below.refl _ _ | refine below_alloc ?_ _)) hb)
  replace B_c := Lib.hid (B_c.out.later (by repeat' (first | exact Below.refl _ _ | refine below_alloc ?_ _)) hb)
  replace B_d := Lib.hid (B_d.out.later (by repeat' (first | exact Below.refl _ _ | refine below_alloc ?_ _)) hb)
  replace B_f := Lib.hid (B_f.out.later (by repeat' (first | exact Below.refl _ _ | refine below_alloc ?_ _)) hb)
  replace B_g := Lib.hid (B_g.out.later (by repeat' (first | exact Below.refl _ _ | refine below_alloc ?_ _)) hb)
  replace B_h := Lib.hid (B_h.out.later (by repeat' (first | exact Below.refl _ _ | refine below_alloc ?_ _)) hb)
  replace B_z := Lib.hid (B_z.out.later (by repeat' (first | exact Below.refl _ _ | refine below_alloc ?_ _)) hb)
  replace B_s := Lib.hid (B_s.out.later (by repeat' (first | exact Below.refl _ _ | refine below_alloc ?_ _)) hb)
  replace B_t := Lib.hid (B_t.out.later (by repeat' (first | exact Below.refl _ _ | refine below_alloc ?_ _)) hb)
  replace HS := Lib.hid (HS.out.num (by repeat' (first | exact Below.refl _ _ | refine below_alloc ?_ _)) hb h0)
  have L_o5 := Lib.hid h0.1
  clear hb h0
  go_wp2_with fail
  have hrow : RowD (w27.alloc (.cells #[.bool false, .slice a_o4 n_o4 c_o4, .int .i64 (53), .bool false, .slice a_o5 n_o5 c_o5, .int .i64 (0)] 24)) w27.heap.size 0 2 (fun _ => false) (fun i => if i = 0 then a_o4 else a_o5) (fun i => if i = 0 then n_o4 else n_o5) (fun i => if i = 0 then c_o4 else c_o5) (fun i => if i = 0 then (53) else (0)) := by
    intro i hi
    have : i = 0 ∨ i = 1 := by omega
    rcases this with rfl | rfl <;> exact ⟨World.cell?_alloc_at (hn := rfl) .., World.cell?_alloc_at (hn := rfl) .., World.cell?_alloc_at (hn := rfl) ..⟩
  have hnum : ∀ i, i < 2 → Num (w27.alloc (.cells #[.bool false, .slice a_o4 n_o4 c_o4, .int .i64 (53), .bool false, .slice a_o5 n_o5 c_o5, .int .i64 (0)] 24)) ((fun i => if i = 0 then a_o4 else a_o5) i) ((fun i => if i = 0 then n_o4 else n_o5) i) ((fun i => if i = 0 then c_o4 else c_o5) i) ((fun _ => limbs 1) i) ∧ ((fun _ => limbs 1) i).length ≤ 400 := by
    intro i hi
    have : i = 0 ∨ i = 1 := by omega
    refine ⟨?_, by show (limbs 1).length ≤ 400; rw [limbs_o]; decide⟩
    rcases this with rfl | rfl
    · exact (HS.out.get 1 rfl (by repeat' (first | exact Below.refl _ _ | refine below_alloc ?_ _)))
    · exact (HS.out.get 0 rfl (by repeat' (first | exact Below.refl _ _ | refine below_alloc ?_ _)))
  skip
  refine (dSum_v _ _ 0 2 2 _ _ _ _ _ _ T3 (hT.below (below_step HS.out.1 (by repeat' (first | exact Below.refl _ _ | refine below_alloc ?_ _)))) (Nat.le_refl _) (by unfold maxLen; omega) (by simp) (by simpa using hrow) (by simpa using hnum) T2_len rfl T2_step rfl).mono ?_
  rintro e w28 ⟨a_u, n_u, c_u, rfl, h0, hb⟩
  replace B_a := Lib.hid (B_a.out.later (by repeat' (first | exact Below.refl _ _ | refine below_alloc ?_ _)) hb)
  replace B_b := Lib.hid (B_b.out.later (by repeat' (first | exact Below.refl _ _ | refine below_alloc ?_ _)) hb)
  replace B_c := Lib.hid (B_c.out.later (by repeat' (first | exact Below.refl _ _ | refine below_alloc ?_ _)) hb)
  replace B_d := Lib.hid (B_d.out.later (by repeat' (first | exact Below.refl _ _ | refine below_alloc ?_ _)) hb)
  replace B_f := Lib.hid (B_f.out.later (by repeat' (first | exact Below.refl _ _ | refine below_alloc ?_ _)) hb)
  replace B_g := Lib.hid (B_g.out.later (by repeat' (first | exact Below.refl _ _ | refine below_alloc ?_ _)) hb)
  replace B_h := Lib.hid (B_h.out.later (by repeat' (first | exact Below.refl _ _ | refine below_alloc ?_ _)) hb)
  replace B_z := Lib.hid (B_z.out.later (by repeat' (first | exact Below.refl _ _ | refine below_alloc ?_ _)) hb)
  replace B_s := Lib.hid (B_s.out.later (by repeat' (first | exact Below.refl _ _ | refine below_alloc ?_ _)) hb)
  replace B_t := Lib.hid (B_t.out.later (by repeat' (first | exact Below.refl _ _ | refine below_alloc ?_ _)) hb)
  replace HS := Lib.hid (HS.out.num (by repeat' (first | exact Below.refl _ _ | refine below_alloc ?_ _)) hb h0)
  have L_u := Lib.hid h0.1
  clear hb h0
  clear hrow hnum
  go_wp2_with fail
  refine (dNorm_v (M := 0) (l := [0, 0]) true 5 zeroD 0 (hT.below (below_step HS.out.1 (by repeat' (first | exact Below.refl _ _ | refine below_alloc ?_ _)))) (by first | exact num_two (x := 0) (y := 0) (by first | rfl | (simp; done)) (by decide) (by decide) | exact (num_two (x := 0) (y := 0) (by first | rfl | (simp; done)) (by decide) (by decide)).below (by repeat' (first | exact Below.refl _ _ | refine below_alloc ?_ _))) (by simp [valL]) (by decide) b_norm3).mono ?_
  rintro e w29 ⟨a_v, n_v, c_v, rfl, h0, hb⟩
  replace B_a := Lib.hid (B_a.out.later (by repeat' (first | exact Below.refl _ _ | refine below_alloc ?_ _)) hb)
  replace B_b := Lib.hid (B_b.out.later (by repeat' (first | exact Below.refl _ _ | refine below_alloc ?_ _)) hb)
  replace B_c := Lib.hid (B_c.out.later (by repeat' (first | exact Below.refl _ _ | refine below_alloc ?_ _)) hb)
  replace B_d := Lib.hid (B_d.out.later (by repeat' (first | exact Below.refl _ _ | refine below_alloc ?_ _)) hb)
  replace B_f := Lib.hid (B_f.out.later (by repeat' (first | exact Below.refl _ _ | refine below_alloc ?_ _)) hb)
  replace B_g := Lib.hid (B_g.out.later (by repeat' (first | exact Below.refl _ _ | refine below_alloc ?_ _)) hb)
  replace B_h := Lib.hid (B_h.out.later (by repeat' (first | exact Below.refl _ _ | refine below_alloc ?_ _)) hb)
  replace B_z := Lib.hid (B_z.out.later (by repeat' (first | exact Below.refl _ _ | refine below_alloc ?_ _)) hb)
  replace B_s := Lib.hid (B_s.out.later (by repeat' (first | exact Below.refl _ _ | refine below_alloc ?_ _)) hb)
  replace B_t := Lib.hid (B_t.out.later (by repeat' (first | exact Below.refl _ _ | refine below_alloc ?_ _)) hb)
  have B_u := Lib.hid (Boxed3.later (Boxed3.new w28 (false) a_u n_u c_u (0) 24 (g := w28.heap.size) (by simp)) (by repeat' (first | exact Below.refl _ _ | refine below_alloc ?_ _)) hb)
  replace HS := Lib.hid (HS.out.num (by repeat' (first | exact Below.refl _ _ | refine below_alloc ?_ _)) hb h0)
  have L_v := Lib.hid h0.1
  clear hb h0
  go_wp2_with fail
  have hb : Below (w29.alloc (.cells #[.bool (zeroD.s), .slice a_v n_v c_v, .int .i64 (zeroD.e)] 24)).heap.size (w29.alloc (.cells #[.bool (zeroD.s), .slice a_v n_v c_v, .int .i64 (zeroD.e)] 24)) (w29.alloc (.cells #[.bool (zeroD.s), .slice a_v n_v c_v, .int .i64 (zeroD.e)] 24)) := Below.refl _ _
  replace B_a := Lib.hid (B_a.out.later (by repeat' (first | exact Below.refl _ _ | refine below_alloc ?_ _)) hb)
  replace B_b := Lib.hid (B_b.out.later (by repeat' (first | exact Below.refl _ _ | refine below_alloc ?_ _)) hb)
  replace B_c := Lib.hid (B_c.out.later (by repeat' (first | exact Below.refl _ _ | refine below_alloc ?_ _)) hb)
  replace B_d := Lib.hid (B_d.out.later (by repeat' (first | exact Below.refl _ _ | refine below_alloc ?_ _)) hb)
  replace B_f := Lib.hid (B_f.out.later (by repeat' (first | exact Below.refl _ _ | refine below_alloc ?_ _)) hb)
  replace B_g := Lib.hid (B_g.out.later (by repeat' (first | exact Below.refl _ _ | refine below_alloc ?_ _)) hb)
  replace B_h := Lib.hid (B_h.out.later (by repeat' (first | exact Below.refl _ _ | refine below_alloc ?_ _)) hb)
  replace B_z := Lib.hid (B_z.out.later (by repeat' (first | exact Below.refl _ _ | refine below_alloc ?_ _)) hb)
  replace B_s := Lib.hid (B_s.out.later (by repeat' (first | exact Below.refl _ _ | refine below_alloc ?_ _)) hb)
  replace B_t := Lib.hid (B_t.out.later (by repeat' (first | exact Below.refl _ _ | refine below_alloc ?_ _)) hb)
  replace B_u := Lib.hid (B_u.out.later (by repeat' (first | exact Below.refl _ _ | refine below_alloc ?_ _)) hb)
  have B_v := Lib.hid (Boxed3.later (Boxed3.new w29 (zeroD.s) a_v n_v c_v (zeroD.e) 24 (g := w29.heap.size) (by simp)) (by repeat' (first | exact Below.refl _ _ | refine below_alloc ?_ _)) hb)
  replace HS := Lib.hid (HS.out.call (by repeat' (first | exact Below.refl _ _ | refine below_alloc ?_ _)) hb)
  clear hb
  generalize (w29.alloc (.cells #[.bool (zeroD.s), .slice a_v n_v c_v, .int .i64 (zeroD.e)] 24)) = w30 at *
  have HSS : Hid (∀ wx, Below w30.heap.size w30 wx → Below w30.heap.size w30 wx ∧ wx.cell? ⟨w19.heap.size, 0, none⟩ = some (.bool false) ∧ wx.cell? ⟨w19.heap.size, 1, none⟩ = some (.slice a_z n_z c_z) ∧ wx.cell? ⟨w19.heap.size, 2, none⟩ = some (.int .i64 (0)) ∧ wx.cell? ⟨w21.heap.size, 0, none⟩ = some (.bool false) ∧ wx.cell? ⟨w21.heap.size, 1, none⟩ = some (.slice a_s n_s c_s) ∧ wx.cell? ⟨w21.heap.size, 2, none⟩ = some (.int .i64 (262144)) ∧ wx.cell? ⟨w25.heap.size, 0, none⟩ = some (.bool false) ∧ wx.cell? ⟨w25.heap.size, 1, none⟩ = some (.slice a_t n_t c_t) ∧ wx.cell? ⟨w25.heap.size, 2, none⟩ = some (.int .i64 (-2000)) ∧ wx.cell? ⟨w28.heap.size, 0, none⟩ = some (.bool false) ∧ wx.cell? ⟨w28.heap.size, 1, none⟩ = some (.slice a_u n_u c_u) ∧ wx.cell? ⟨w28.heap.size, 2, none⟩ = some (.int .i64 (0)) ∧ wx.cell? ⟨w29.heap.size, 0, none⟩ = some (.bool false) ∧ wx.cell? ⟨w29.heap.size, 1, none⟩ = some (.slice a_v n_v c_v) ∧ wx.cell? ⟨w29.heap.size, 2, none⟩ = some (.int .i64 (0))) := Lib.hid (fun wx h => ⟨h, (B_z.out.below h).c0, (B_z.out.below h).c1, (B_z.out.below h).c2, (B_s.out.below h).c0, (B_s.out.below h).c1, (B_s.out.below h).c2, (B_t.out.below h).c0, (B_t.out.below h).c1, (B_t.out.below h).c2, (B_u.out.below h).c0, (B_u.out.below h).c1, (B_u.out.below h).c2, (B_v.out.below h).c0, (B_v.out.below h).c1, (B_v.out.below h).c2⟩)
  have HB0 := Below.refl w30.heap.size w30
  have HT := Lib.hid (hT.below HS.out.1)
  have HQ := Lib.hid (PowT_below hQ HS.out.1)
  have f1 := fun wx (h : Below w30.heap.size w30 wx) => rsame3_any false 0 (HS.out.get 10 rfl h) (Num.nil _) (by show limbs 0 = []; exact limbs_zero) (by show (limbs 0).length ≤ _; rw [limbs_zero]; decide)
  have f2 := fun wx (h : Below w30.heap.size w30 wx) => rsame3_any false 0 (HS.out.get 0 rfl h) (Num.nil _) (by show limbs 0 = []; exact limbs_zero) (by show (limbs 0).length ≤ _; rw [limbs_zero]; decide)
  have f3 := fun wx (h : Below w30.heap.size w30 wx) (a : Option Addr) (n c : Nat) (hn : Num wx a n c (limbs 1)) => rsame3_any false 262144 (HS.out.get 8 rfl h) hn rfl (by show (limbs 1).length ≤ _; rw [limbs_o]; decide)
  have f4 := fun wx (h : Below w30.heap.size w30 wx) => lfloat_v false (-2000) 4845873199050653697 (HT.out.below h) (HS.out.get 4 rfl h) (valL_limbs _) T3_small (by decide) T3_round
  have f5 := fun wx (h : Below w30.heap.size w30 wx) => lfloat_v false 0 4845873199050653696 (HT.out.below h) (HS.out.get 1 rfl h) (valL_limbs _) (Nat.le_trans (len_le_one (by decide)) (by decide)) (by decide) (r_is (by decide) (by decide))
  have g1 := fun wx => lhalf_any (w := wx) 262144 (by decide)
  have g2 := fun wx (h : Below w30.heap.size w30 wx) => known3_any wx (HT.out.below h) (PowT_below HQ.out h)
  clear B_a B_b B_c B_d B_f B_g B_h B_z B_s B_t B_u B_v hT hQ 
  dsimp only [List.append]
  go_region_held3 (fun wx => Below w30.heap.size w30 wx ∧ wx.cell? ⟨w19.heap.size, 0, none⟩ = some (.bool false) ∧ wx.cell? ⟨w19.heap.size, 1, none⟩ = some (.slice a_z n_z c_z) ∧ wx.cell? ⟨w19.heap.size, 2, none⟩ = some (.int .i64 (0)) ∧ wx.cell? ⟨w21.heap.size, 0, none⟩ = some (.bool false) ∧ wx.cell? ⟨w21.heap.size, 1, none⟩ = some (.slice a_s n_s c_s) ∧ wx.cell? ⟨w21.heap.size, 2, none⟩ = some (.int .i64 (262144)) ∧ wx.cell? ⟨w25.heap.size, 0, none⟩ = some (.bool false) ∧ wx.cell? ⟨w25.heap.size, 1, none⟩ = some (.slice a_t n_t c_t) ∧ wx.cell? ⟨w25.heap.size, 2, none⟩ = some (.int .i64 (-2000)) ∧ wx.cell? ⟨w28.heap.size, 0, none⟩ = some (.bool false) ∧ wx.cell? ⟨w28.heap.size, 1, none⟩ = some (.slice a_u n_u c_u) ∧ wx.cell? ⟨w28.heap.size, 2, none⟩ = some (.int .i64 (0)) ∧ wx.cell? ⟨w29.heap.size, 0, none⟩ = some (.bool false) ∧ wx.cell? ⟨w29.heap.size, 1, none⟩ = some (.slice a_v n_v c_v) ∧ wx.cell? ⟨w29.heap.size, 2, none⟩ = some (.int .i64 (0))) (first | exact HSS.out _ (by assumption) | exact HSS.out _ (Below.drew (by assumption))) ((first | (go_at_call 28; (with_reducible first | refine (num3_any _ _).mono ?_); rintro e w' ⟨rfl, rfl⟩) | (go_at_call 27; (with_reducible first | refine (f1 _ (by first | assumption | exact Below.drew (by assumption))).mono ?_ | refine (f2 _ (by first | assumption | exact Below.drew (by assumption))).mono ?_ | refine (f3 _ (by first | assumption | exact Below.drew (by assumption)) _ _ _ (by assumption)).mono ?_); rintro e wz ⟨rfl, hb⟩; have HB0 := below_step (w0 := w30) (by first | assumption | exact Below.drew (by assumption)) hb; clear hb) | (go_at_call 59; (with_reducible first | refine (g1 _).mono ?_); rintro e wz ⟨ha, hn, hc, rfl, hN, hb⟩; have HB0 := below_step (w0 := w30) (by first | assumption | exact Below.drew (by assumption)) hb; clear hb) | (go_at_call 61; (with_reducible first | refine (f4 _ (by first | assumption | exact Below.drew (by assumption))).mono ?_ | refine (f5 _ (by first | assumption | exact Below.drew (by assumption))).mono ?_); rintro e wz ⟨rfl, hb⟩; have HB0 := below_step (w0 := w30) (by first | assumption | exact Below.drew (by assumption)) hb; clear hb) | (go_at_call 29; (with_reducible first | refine (g2 _ (by first | assumption | exact Below.drew (by assumption))).mono ?_); rintro e wz ⟨rfl, hb⟩; have HB0 := below_step (w0 := w30) (by first | assumption | exact Below.drew (by assumption)) hb; clear hb)))
  all_goals go_wp2_with fail
  all_goals go_ret
  all_goals exact ⟨rfl, below_step HS.out.1 (by first | assumption | exact Below.drew (by assumption))⟩
end Go.Proofs.YtjlaadadbpffdaaGreatDoor
