/-
  Layer 2's laws, walked: NatLeft, NatRight, NatBits (printed by natlaws.py).
-/
import Derived.Test.YtjfjkabmpiebpaaDoorNatWa
set_option linter.unusedSimpArgs false
set_option linter.unusedVariables false
namespace Go.Proofs.YtjfjkabmpiebpaaDoor
open Go.RowKit Go.Plumb

set_option maxRecDepth 100000 in
set_option maxHeartbeats 2000000 in
theorem w_NatLeft (w : World) (hT : Tab w) (a : Option Addr) (na ca : Nat) (la : List Nat) (Ha : Num w a na ca la) (k : Int) (hk0 : -9223372036854775808 ≤ k) (hk1 : k ≤ 9223372036854775807) :
    Calls Tryd.prog 11 #[.slice a na ca, .int .i64 k] w fun e w' => e = .returned (.bool true) ∧ Below w.heap.size w w' := by
  have HS : Hid (At w w [(a, na, ca, la)]) := Lib.hid ⟨Below.refl _ _, Ha, trivial⟩
  have ma := num_max Ha
  have Ia : Hid (na = la.length ∧ Limbs la) := Lib.hid ⟨Ha.1, Ha.limbs⟩
  clear Ha
  go_enter Tryd.func11, Tryd.ntmps11
  go_wp2_with fail
  refine (long_any a na ca _ ma).mono ?_
  rintro e w' ⟨rfl, rfl⟩
  by_cases ga : (60 : Int) < (na : Int)
  · rw [decide_eq_true ga]
    go_wp2_with fail
    refine (known_any _ (hT.below HS.out.1)).mono ?_
    rintro e w1 ⟨rfl, hb⟩
    replace HS := Lib.hid (HS.out.call (by repeat' (first | exact Below.refl _ _ | refine below_alloc ?_ _)) hb)
    clear hb 
    go_wp2_with fail
    go_ret
    exact ⟨rfl, HS.out.1⟩
  · rw [decide_eq_false ga]
    have Ja : Hid (la.length ≤ 60) := Lib.hid (by have := Ia.out.1; omega)
    clear ga
    by_cases g : (5000 : Int) < k
    · skip
      go_wp2_with fail
      refine (known_any _ (hT.below HS.out.1)).mono ?_
      rintro e w1 ⟨rfl, hb⟩
      replace HS := Lib.hid (HS.out.call (by repeat' (first | exact Below.refl _ _ | refine below_alloc ?_ _)) hb)
      clear hb 
      go_wp2_with fail
      go_ret
      exact ⟨rfl, HS.out.1⟩
    · skip
      by_cases hk : k < 0
      · skip
        go_wp2_with fail
        refine (shl_n_neg k (HS.out.get 0 rfl (by repeat' (first | exact Below.refl _ _ | refine below_alloc ?_ _))) hk (by have ja := Ja.out; omega)).mono ?_
        rintro e w1 ⟨rfl, hb⟩
        replace HS := Lib.hid (HS.out.call (by repeat' (first | exact Below.refl _ _ | refine below_alloc ?_ _)) hb)
        clear hb 
        go_wp2_with fail
        refine ((Pow2_neg k _ hk)).mono ?_
        rintro e w2 ⟨rfl, hb⟩
        replace HS := Lib.hid (HS.out.call (by repeat' (first | exact Below.refl _ _ | refine below_alloc ?_ _)) hb)
        clear hb 
        go_wp2_with fail
        refine (num_any 2 _).mono ?_
        rintro e w' ⟨rfl, rfl⟩
        go_wp2_with fail
        refine (num_any 2 _).mono ?_
        rintro e w' ⟨rfl, rfl⟩
        go_wp2_with fail
        refine (known_any _ (hT.below HS.out.1)).mono ?_
        rintro e w3 ⟨rfl, hb⟩
        replace HS := Lib.hid (HS.out.call (by repeat' (first | exact Below.refl _ _ | refine below_alloc ?_ _)) hb)
        clear hb 
        go_wp2_with fail
        go_ret
        exact ⟨rfl, HS.out.1⟩
      · skip
        obtain ⟨i, rfl⟩ : ∃ i : Nat, k = (i : Int) := ⟨k.toNat, by omega⟩
        have hi : i ≤ 5000 := by omega
        have K1 : Hid ((limbs (valL la * 2 ^ i)).length ≤ 200 ∧ (limbs (2 ^ i)).length ≤ 80) := Lib.hid (by
          have h2 : (limbs (2 ^ i)).length ≤ i / 64 + 1 := by
            apply length_limbs_le
            rw [powB64]
            exact Nat.pow_lt_pow_right (by decide) (by omega)
          have h := len_mul Ia.out.2 (limbs_limbs (2 ^ i))
          rw [valL_limbs] at h
          have := Ja.out
          exact ⟨by omega, by omega⟩)
        have HI := Lib.hid hi
        have g2 : ((i : Nat) : Int) ≤ 5000 := by omega
        clear hi hk0 hk1 hk g
        go_wp2_with fail
        refine (shl_n _ i (HS.out.get 0 rfl (by repeat' (first | exact Below.refl _ _ | refine below_alloc ?_ _))) rfl (by have ja := Ja.out; omega) (by have := HI.out; omega) (by have := K1.out; omega)).mono ?_
        rintro e w1 ⟨a_b, n_b, c_b, rfl, h0, hb⟩
        have L_b := Lib.hid h0.1
        replace HS := Lib.hid (HS.out.num (by repeat' (first | exact Below.refl _ _ | refine below_alloc ?_ _)) hb h0)
        clear hb h0
        go_wp2_with fail
        refine (pow2_n i (by have := HI.out; omega)).mono ?_
        rintro e w2 ⟨a_p, n_p, c_p, rfl, h0, hb⟩
        have L_p := Lib.hid h0.1
        replace HS := Lib.hid (HS.out.num (by repeat' (first | exact Below.refl _ _ | refine below_alloc ?_ _)) hb h0)
        clear hb h0
        go_wp2_with fail
        refine (rshl_n _ i (HS.out.get 2 rfl (by repeat' (first | exact Below.refl _ _ | refine below_alloc ?_ _))) rfl (by have ja := Ja.out; omega) (by have := HI.out; omega)).mono ?_
        rintro e w3 ⟨a_b2, n_b2, c_b2, rfl, h0, hb⟩
        have L_b2 := Lib.hid h0.1
        replace HS := Lib.hid (HS.out.num (by repeat' (first | exact Below.refl _ _ | refine below_alloc ?_ _)) hb h0)
        clear hb h0
        go_wp2_with fail
        refine (same_n (HS.out.get 2 rfl (by repeat' (first | exact Below.refl _ _ | refine below_alloc ?_ _))) (HS.out.get 0 rfl (by repeat' (first | exact Below.refl _ _ | refine below_alloc ?_ _))) rfl (by have := K1.out; omega)).mono ?_
        rintro e w4 ⟨rfl, hb⟩
        replace HS := Lib.hid (HS.out.call (by repeat' (first | exact Below.refl _ _ | refine below_alloc ?_ _)) hb)
        clear hb 
        go_wp2_with fail
        refine (rpow2_n i (by have := HI.out; omega)).mono ?_
        rintro e w5 ⟨a_p2, n_p2, c_p2, rfl, h0, hb⟩
        have L_p2 := Lib.hid h0.1
        replace HS := Lib.hid (HS.out.num (by repeat' (first | exact Below.refl _ _ | refine below_alloc ?_ _)) hb h0)
        clear hb h0
        go_wp2_with fail
        refine (same_n (HS.out.get 2 rfl (by repeat' (first | exact Below.refl _ _ | refine below_alloc ?_ _))) (HS.out.get 0 rfl (by repeat' (first | exact Below.refl _ _ | refine below_alloc ?_ _))) rfl (by have := K1.out; omega)).mono ?_
        rintro e w6 ⟨rfl, hb⟩
        replace HS := Lib.hid (HS.out.call (by repeat' (first | exact Below.refl _ _ | refine below_alloc ?_ _)) hb)
        clear hb 
        go_wp2_with fail
        refine (num_any 0 _).mono ?_
        rintro e w' ⟨rfl, rfl⟩
        go_wp2_with fail
        refine (num_any 0 _).mono ?_
        rintro e w' ⟨rfl, rfl⟩
        go_wp2_with fail
        refine (known_any _ (hT.below HS.out.1)).mono ?_
        rintro e w7 ⟨rfl, hb⟩
        replace HS := Lib.hid (HS.out.call (by repeat' (first | exact Below.refl _ _ | refine below_alloc ?_ _)) hb)
        clear hb 
        go_wp2_with fail
        go_ret
        exact ⟨rfl, HS.out.1⟩

set_option maxRecDepth 100000 in
set_option maxHeartbeats 2000000 in
theorem w_NatRight (w : World) (hT : Tab w) (a : Option Addr) (na ca : Nat) (la : List Nat) (Ha : Num w a na ca la) (k : Int) (hk0 : -9223372036854775808 ≤ k) (hk1 : k ≤ 9223372036854775807) :
    Calls Tryd.prog 8 #[.slice a na ca, .int .i64 k] w fun e w' => e = .returned (.bool true) ∧ Below w.heap.size w w' := by
  have HS : Hid (At w w [(a, na, ca, la)]) := Lib.hid ⟨Below.refl _ _, Ha, trivial⟩
  have ma := num_max Ha
  have Ia : Hid (na = la.length ∧ Limbs la) := Lib.hid ⟨Ha.1, Ha.limbs⟩
  clear Ha
  go_enter Tryd.func8, Tryd.ntmps8
  go_wp2_with fail
  refine (long_any a na ca _ ma).mono ?_
  rintro e w' ⟨rfl, rfl⟩
  by_cases ga : (60 : Int) < (na : Int)
  · rw [decide_eq_true ga]
    go_wp2_with fail
    refine (known_any _ (hT.below HS.out.1)).mono ?_
    rintro e w1 ⟨rfl, hb⟩
    replace HS := Lib.hid (HS.out.call (by repeat' (first | exact Below.refl _ _ | refine below_alloc ?_ _)) hb)
    clear hb 
    go_wp2_with fail
    go_ret
    exact ⟨rfl, HS.out.1⟩
  · rw [decide_eq_false ga]
    have Ja : Hid (la.length ≤ 60) := Lib.hid (by have := Ia.out.1; omega)
    clear ga
    by_cases hk : k < 0
    · skip
      go_wp2_with fail
      refine (shr_n_neg k (HS.out.get 0 rfl (by repeat' (first | exact Below.refl _ _ | refine below_alloc ?_ _))) hk (by have ja := Ja.out; omega)).mono ?_
      rintro e w1 ⟨rfl, hb⟩
      replace HS := Lib.hid (HS.out.call (by repeat' (first | exact Below.refl _ _ | refine below_alloc ?_ _)) hb)
      clear hb 
      go_wp2_with fail
      refine (num_any 2 _).mono ?_
      rintro e w' ⟨rfl, rfl⟩
      go_wp2_with fail
      refine (known_any _ (hT.below HS.out.1)).mono ?_
      rintro e w2 ⟨rfl, hb⟩
      replace HS := Lib.hid (HS.out.call (by repeat' (first | exact Below.refl _ _ | refine below_alloc ?_ _)) hb)
      clear hb 
      go_wp2_with fail
      go_ret
      exact ⟨rfl, HS.out.1⟩
    · skip
      obtain ⟨i, rfl⟩ : ∃ i : Nat, k = (i : Int) := ⟨k.toNat, by omega⟩
      have hi : i ≤ 9223372036854775807 := by omega
      have K1 : Hid ((limbs (valL la / 2 ^ i)).length ≤ 60) := Lib.hid (Nat.le_trans (length_mono (Nat.div_le_self _ _)) (Nat.le_trans (len_of Ia.out.2) Ja.out))
      have HI := Lib.hid hi
      obtain ⟨bl, hbl⟩ : ∃ bl, decide (valL la % 2 ^ i ≠ 0) = bl := ⟨_, rfl⟩
      clear hi hk0 hk1 hk
      go_wp2_with fail
      refine (shr_n _ i (HS.out.get 0 rfl (by repeat' (first | exact Below.refl _ _ | refine below_alloc ?_ _))) rfl (by have ja := Ja.out; omega) HI.out).mono ?_
      rintro e w1 ⟨a_b, n_b, c_b, rfl, h0, hb⟩
      have L_b := Lib.hid h0.1
      replace HS := Lib.hid (HS.out.num (by repeat' (first | exact Below.refl _ _ | refine below_alloc ?_ _)) hb h0)
      clear hb h0
      rw [hbl]
      go_wp2_with fail
      refine (rshr_n _ i (HS.out.get 1 rfl (by repeat' (first | exact Below.refl _ _ | refine below_alloc ?_ _))) rfl (by have ja := Ja.out; omega) HI.out).mono ?_
      rintro e w2 ⟨a_b2, n_b2, c_b2, rfl, h0, hb⟩
      have L_b2 := Lib.hid h0.1
      replace HS := Lib.hid (HS.out.num (by repeat' (first | exact Below.refl _ _ | refine below_alloc ?_ _)) hb h0)
      clear hb h0
      rw [hbl]
      clear hbl
      go_wp2_with fail
      refine (same_n (HS.out.get 1 rfl (by repeat' (first | exact Below.refl _ _ | refine below_alloc ?_ _))) (HS.out.get 0 rfl (by repeat' (first | exact Below.refl _ _ | refine below_alloc ?_ _))) rfl (by have := K1.out; omega)).mono ?_
      rintro e w3 ⟨rfl, hb⟩
      replace HS := Lib.hid (HS.out.call (by repeat' (first | exact Below.refl _ _ | refine below_alloc ?_ _)) hb)
      clear hb 
      go_wp2_with fail
      refine (num_any 0 _).mono ?_
      rintro e w' ⟨rfl, rfl⟩
      go_wp2_with fail
      refine (known_any _ (hT.below HS.out.1)).mono ?_
      rintro e w4 ⟨rfl, hb⟩
      replace HS := Lib.hid (HS.out.call (by repeat' (first | exact Below.refl _ _ | refine below_alloc ?_ _)) hb)
      clear hb 
      go_wp2_with fail
      go_ret
      exact ⟨rfl, HS.out.1⟩

set_option maxRecDepth 100000 in
set_option maxHeartbeats 2000000 in
theorem w_NatBits (w : World) (hT : Tab w) (a : Option Addr) (na ca : Nat) (la : List Nat) (Ha : Num w a na ca la) (i : Int) (hi0 : -9223372036854775808 ≤ i) (hi1 : i ≤ 9223372036854775807) :
    Calls Tryd.prog 12 #[.slice a na ca, .int .i64 i] w fun e w' => e = .returned (.bool true) ∧ Below w.heap.size w w' := by
  have HS : Hid (At w w [(a, na, ca, la)]) := Lib.hid ⟨Below.refl _ _, Ha, trivial⟩
  have ma := num_max Ha
  have Ia : Hid (na = la.length ∧ Limbs la) := Lib.hid ⟨Ha.1, Ha.limbs⟩
  clear Ha
  go_enter Tryd.func12, Tryd.ntmps12
  go_wp2_with fail
  refine (long_any a na ca _ ma).mono ?_
  rintro e w' ⟨rfl, rfl⟩
  by_cases ga : (60 : Int) < (na : Int)
  · rw [decide_eq_true ga]
    go_wp2_with fail
    refine (known_any _ (hT.below HS.out.1)).mono ?_
    rintro e w1 ⟨rfl, hb⟩
    replace HS := Lib.hid (HS.out.call (by repeat' (first | exact Below.refl _ _ | refine below_alloc ?_ _)) hb)
    clear hb 
    go_wp2_with fail
    go_ret
    exact ⟨rfl, HS.out.1⟩
  · rw [decide_eq_false ga]
    have Ja : Hid (la.length ≤ 60) := Lib.hid (by have := Ia.out.1; omega)
    clear ga
    obtain ⟨N, hN⟩ : ∃ N, lenN (valL la) = N := ⟨_, rfl⟩
    obtain ⟨Z, hZ⟩ : ∃ Z, zerosN (valL la) = Z := ⟨_, rfl⟩
    obtain ⟨bl, hbl⟩ : ∃ bl, bitB (valL la) i = bl := ⟨_, rfl⟩
    have HI := Lib.hid hi1
    clear hi0 hi1
    go_wp2_with fail
    refine (bits_n (HS.out.get 0 rfl (by repeat' (first | exact Below.refl _ _ | refine below_alloc ?_ _))) (by have ja := Ja.out; omega)).mono ?_
    rintro e w1 ⟨rfl, hb⟩
    replace HS := Lib.hid (HS.out.call (by repeat' (first | exact Below.refl _ _ | refine below_alloc ?_ _)) hb)
    clear hb 
    rw [hN]
    go_wp2_with fail
    refine (zeros_n (hT.below HS.out.1) (HS.out.get 0 rfl (by repeat' (first | exact Below.refl _ _ | refine below_alloc ?_ _))) (by have ja := Ja.out; omega)).mono ?_
    rintro e w2 ⟨rfl, hb⟩
    replace HS := Lib.hid (HS.out.call (by repeat' (first | exact Below.refl _ _ | refine below_alloc ?_ _)) hb)
    clear hb 
    rw [hZ]
    go_wp2_with fail
    refine (rbits_n (HS.out.get 0 rfl (by repeat' (first | exact Below.refl _ _ | refine below_alloc ?_ _))) (by have ja := Ja.out; omega)).mono ?_
    rintro e w3 ⟨rfl, hb⟩
    replace HS := Lib.hid (HS.out.call (by repeat' (first | exact Below.refl _ _ | refine below_alloc ?_ _)) hb)
    clear hb 
    rw [hN]
    clear hN
    go_wp2_with fail
    refine (rzeros_n (HS.out.get 0 rfl (by repeat' (first | exact Below.refl _ _ | refine below_alloc ?_ _))) (by have ja := Ja.out; omega)).mono ?_
    rintro e w4 ⟨rfl, hb⟩
    replace HS := Lib.hid (HS.out.call (by repeat' (first | exact Below.refl _ _ | refine below_alloc ?_ _)) hb)
    clear hb 
    rw [hZ]
    clear hZ
    go_wp2_with fail
    refine (num_any 0 _).mono ?_
    rintro e w' ⟨rfl, rfl⟩
    go_wp2_with fail
    refine (num_any 0 _).mono ?_
    rintro e w' ⟨rfl, rfl⟩
    go_wp2_with fail
    refine (bit_n i (HS.out.get 0 rfl (by repeat' (first | exact Below.refl _ _ | refine below_alloc ?_ _))) HI.out).mono ?_
    rintro e w' ⟨rfl, rfl⟩
    rw [hbl]
    go_wp2_with fail
    refine (rbit_n i (HS.out.get 0 rfl (by repeat' (first | exact Below.refl _ _ | refine below_alloc ?_ _))) HI.out).mono ?_
    rintro e w' ⟨rfl, rfl⟩
    rw [hbl]
    clear hbl
    go_wp2_with fail
    refine (known_any _ (hT.below HS.out.1)).mono ?_
    rintro e w5 ⟨rfl, hb⟩
    replace HS := Lib.hid (HS.out.call (by repeat' (first | exact Below.refl _ _ | refine below_alloc ?_ _)) hb)
    clear hb 
    go_wp2_with fail
    go_ret
    exact ⟨rfl, HS.out.1⟩
end Go.Proofs.YtjfjkabmpiebpaaDoor
