/-
  Layer 2's laws, walked: NatDivs, NatRoots (printed by natlaws.py).
-/
import Derived.Test.YtjfjkabmpiebpaaDoorNatWa
set_option linter.unusedSimpArgs false
set_option linter.unusedVariables false
namespace Go.Proofs.YtjfjkabmpiebpaaDoor
open Go.RowKit Go.Plumb

set_option maxRecDepth 100000 in
set_option maxHeartbeats 2000000 in
theorem w_NatDivs (w : World) (hT : Tab w) (a : Option Addr) (na ca : Nat) (la : List Nat) (Ha : Num w a na ca la) (b : Option Addr) (nb cb : Nat) (lb : List Nat) (Hb : Num w b nb cb lb) :
    Calls Tryd.prog 6 #[.slice a na ca, .slice b nb cb] w fun e w' => e = .returned (.bool true) ∧ Below w.heap.size w w' := by
  have HS : Hid (At w w [(a, na, ca, la), (b, nb, cb, lb)]) := Lib.hid ⟨Below.refl _ _, Ha, Hb, trivial⟩
  have ma := num_max Ha
  have Ia : Hid (na = la.length ∧ Limbs la) := Lib.hid ⟨Ha.1, Ha.limbs⟩
  have mb := num_max Hb
  have Ib : Hid (nb = lb.length ∧ Limbs lb) := Lib.hid ⟨Hb.1, Hb.limbs⟩
  clear Ha Hb
  go_enter Tryd.func6, Tryd.ntmps6
  go_wp2_with fail
  refine (long_any a na ca _ ma).mono ?_
  rintro e w' ⟨rfl, rfl⟩
  by_cases ga : (60 : Int) < (na : Int)
  · rw [decide_eq_true ga]
    go_wp2_with fail
    refine (known_any _ (hT.below HS.out.1)).mono ?_
    rintro e w1 ⟨rfl, hb⟩
    replace HS := Lib.hid (HS.out.call (by repeat' (first | exact Below.refl _ _ | refine below_alloc ?_ _)) hb)
    clear hb 
    go_wp2_with fail
    go_ret
    exact ⟨rfl, HS.out.1⟩
  · rw [decide_eq_false ga]
    go_wp2_with fail
    refine (long_any b nb cb _ mb).mono ?_
    rintro e w' ⟨rfl, rfl⟩
    by_cases gb : (60 : Int) < (nb : Int)
    · rw [decide_eq_true gb]
      go_wp2_with fail
      refine (known_any _ (hT.below HS.out.1)).mono ?_
      rintro e w1 ⟨rfl, hb⟩
      replace HS := Lib.hid (HS.out.call (by repeat' (first | exact Below.refl _ _ | refine below_alloc ?_ _)) hb)
      clear hb 
      go_wp2_with fail
      go_ret
      exact ⟨rfl, HS.out.1⟩
    · rw [decide_eq_false gb]
      have Ja : Hid (la.length ≤ 60) := Lib.hid (by have := Ia.out.1; omega)
      clear ga
      have Jb : Hid (lb.length ≤ 60) := Lib.hid (by have := Ib.out.1; omega)
      clear gb
      have K1 : Hid ((limbs (valL lb)).length ≤ 60 ∧ (limbs (valL la)).length ≤ 60) := Lib.hid ⟨Nat.le_trans (len_of Ib.out.2) Jb.out, Nat.le_trans (len_of Ia.out.2) Ja.out⟩
      by_cases h0 : valL lb = 0
      · have H0 := Lib.hid h0
        clear h0
        go_wp2_with fail
        refine (div_n_zero (HS.out.get 0 rfl (by repeat' (first | exact Below.refl _ _ | refine below_alloc ?_ _))) (HS.out.get 1 rfl (by repeat' (first | exact Below.refl _ _ | refine below_alloc ?_ _))) H0.out (by have ja := Ja.out; have jb := Jb.out; omega)).mono ?_
        rintro e w1 ⟨rfl, hb⟩
        replace HS := Lib.hid (HS.out.call (by repeat' (first | exact Below.refl _ _ | refine below_alloc ?_ _)) hb)
        clear hb 
        go_wp2_with fail
        refine (rnorm_n (HS.out.get 1 rfl (by repeat' (first | exact Below.refl _ _ | refine below_alloc ?_ _))) (by have jb := Jb.out; omega)).mono ?_
        rintro e w2 ⟨a_y, n_y, c_y, rfl, h0, hb⟩
        have L_y := Lib.hid h0.1
        replace HS := Lib.hid (HS.out.num (by repeat' (first | exact Below.refl _ _ | refine below_alloc ?_ _)) hb h0)
        clear hb h0
        obtain rfl : n_y = 0 := by have := L_y.out; rw [H0.out, limbs_zero] at this; exact this
        go_wp2_with fail
        refine (num_any 2 _).mono ?_
        rintro e w' ⟨rfl, rfl⟩
        go_wp2_with fail
        refine (known_any _ (hT.below HS.out.1)).mono ?_
        rintro e w3 ⟨rfl, hb⟩
        replace HS := Lib.hid (HS.out.call (by repeat' (first | exact Below.refl _ _ | refine below_alloc ?_ _)) hb)
        clear hb 
        go_wp2_with fail
        go_ret
        exact ⟨rfl, HS.out.1⟩
      · obtain ⟨Q, hQ⟩ : ∃ Q, valL la / valL lb = Q := ⟨_, rfl⟩
        obtain ⟨R, hR⟩ : ∃ R, valL la % valL lb = R := ⟨_, rfl⟩
        have hlt : R < valL lb := by rw [← hR]; exact Nat.mod_lt _ (by omega)
        have hqr : Q * valL lb + R = valL la := by rw [← hQ, ← hR, Nat.mul_comm]; exact Nat.div_add_mod _ _
        have K2 : Hid ((limbs Q).length ≤ 60 ∧ (limbs R).length ≤ 60 ∧ (limbs (Q * valL lb)).length ≤ 60) := Lib.hid ⟨Nat.le_trans (length_mono (show Q ≤ valL la by rw [← hQ]; exact Nat.div_le_self _ _)) K1.out.2, Nat.le_trans (length_mono (show R ≤ valL la by omega)) K1.out.2, Nat.le_trans (length_mono (show Q * valL lb ≤ valL la by omega)) K1.out.2⟩
        have HQ : Hid (valL lb ≠ 0 ∧ valL la / valL lb = Q ∧ valL la % valL lb = R ∧ R < valL lb ∧ Q * valL lb + R = valL la) := Lib.hid ⟨h0, hQ, hR, hlt, hqr⟩
        have hc : cmpN (valL (limbs R)) (valL lb) = -1 := by rw [valL_limbs]; unfold cmpN; rw [if_pos hlt]
        have hc2 : cmpN (valL (limbs (valL la))) (valL la) = 0 := by rw [valL_limbs]; unfold cmpN; rw [if_neg (Nat.lt_irrefl _), if_neg (Nat.lt_irrefl _)]
        clear h0 hQ hR hlt hqr
        go_wp2_with fail
        refine (div_n Q R (HS.out.get 0 rfl (by repeat' (first | exact Below.refl _ _ | refine below_alloc ?_ _))) (HS.out.get 1 rfl (by repeat' (first | exact Below.refl _ _ | refine below_alloc ?_ _))) HQ.out.1 HQ.out.2.1 HQ.out.2.2.1 (by have ja := Ja.out; have jb := Jb.out; omega)).mono ?_
        rintro e w1 ⟨a_q, n_q, c_q, a_r, n_r, c_r, rfl, h0, h1, hb⟩
        have L_q := Lib.hid h0.1
        have L_r := Lib.hid h1.1
        replace HS := Lib.hid ((HS.out.num (by repeat' (first | exact Below.refl _ _ | refine below_alloc ?_ _)) hb h0).num (Below.refl _ _) (Below.refl _ _) h1)
        clear hb h0 h1
        go_wp2_with fail
        refine (rnorm_n (HS.out.get 3 rfl (by repeat' (first | exact Below.refl _ _ | refine below_alloc ?_ _))) (by have jb := Jb.out; omega)).mono ?_
        rintro e w2 ⟨a_y, n_y, c_y, rfl, h0, hb⟩
        have L_y := Lib.hid h0.1
        replace HS := Lib.hid (HS.out.num (by repeat' (first | exact Below.refl _ _ | refine below_alloc ?_ _)) hb h0)
        clear hb h0
        have hny : n_y ≠ 0 := by
          intro h
          have := L_y.out
          rw [h] at this
          exact HQ.out.1 ((limbs_nil_iff _).1 (List.eq_nil_of_length_eq_zero this.symm))
        have hnb : ((n_y : Int) == 0) = false := by simpa using hny
        clear hny
        go_wp2_with fail
        refine (num_any 0 _).mono ?_
        rintro e w' ⟨rfl, rfl⟩
        go_wp2_with fail
        refine (rnorm_n (HS.out.get 2 rfl (by repeat' (first | exact Below.refl _ _ | refine below_alloc ?_ _))) (by have := K2.out; omega)).mono ?_
        rintro e w3 ⟨a_q2, n_q2, c_q2, rfl, h0, hb⟩
        have L_q2 := Lib.hid h0.1
        replace HS := Lib.hid (HS.out.num (by repeat' (first | exact Below.refl _ _ | refine below_alloc ?_ _)) hb h0)
        clear hb h0
        go_wp2_with fail
        refine (same_n (HS.out.get 3 rfl (by repeat' (first | exact Below.refl _ _ | refine below_alloc ?_ _))) (HS.out.get 0 rfl (by repeat' (first | exact Below.refl _ _ | refine below_alloc ?_ _))) (by rw [valL_limbs]) (by have := K2.out; omega)).mono ?_
        rintro e w4 ⟨rfl, hb⟩
        replace HS := Lib.hid (HS.out.call (by repeat' (first | exact Below.refl _ _ | refine below_alloc ?_ _)) hb)
        clear hb 
        go_wp2_with fail
        refine (rnorm_n (HS.out.get 2 rfl (by repeat' (first | exact Below.refl _ _ | refine below_alloc ?_ _))) (by have := K2.out; omega)).mono ?_
        rintro e w5 ⟨a_r2, n_r2, c_r2, rfl, h0, hb⟩
        have L_r2 := Lib.hid h0.1
        replace HS := Lib.hid (HS.out.num (by repeat' (first | exact Below.refl _ _ | refine below_alloc ?_ _)) hb h0)
        clear hb h0
        go_wp2_with fail
        refine (same_n (HS.out.get 3 rfl (by repeat' (first | exact Below.refl _ _ | refine below_alloc ?_ _))) (HS.out.get 0 rfl (by repeat' (first | exact Below.refl _ _ | refine below_alloc ?_ _))) (by rw [valL_limbs]) (by have := K2.out; omega)).mono ?_
        rintro e w6 ⟨rfl, hb⟩
        replace HS := Lib.hid (HS.out.call (by repeat' (first | exact Below.refl _ _ | refine below_alloc ?_ _)) hb)
        clear hb 
        go_wp2_with fail
        refine (rcmp_n (HS.out.get 3 rfl (by repeat' (first | exact Below.refl _ _ | refine below_alloc ?_ _))) (HS.out.get 6 rfl (by repeat' (first | exact Below.refl _ _ | refine below_alloc ?_ _))) (by have := K2.out; have := Jb.out; omega)).mono ?_
        rintro e w7 ⟨rfl, hb⟩
        replace HS := Lib.hid (HS.out.call (by repeat' (first | exact Below.refl _ _ | refine below_alloc ?_ _)) hb)
        clear hb 
        rw [hc]
        go_wp2_with fail
        refine (rmul_n (Q * valL lb) (HS.out.get 4 rfl (by repeat' (first | exact Below.refl _ _ | refine below_alloc ?_ _))) (HS.out.get 6 rfl (by repeat' (first | exact Below.refl _ _ | refine below_alloc ?_ _))) (by rw [valL_limbs]) (by have := K2.out; have := Jb.out; omega)).mono ?_
        rintro e w8 ⟨a_m, n_m, c_m, rfl, h0, hb⟩
        have L_m := Lib.hid h0.1
        replace HS := Lib.hid (HS.out.num (by repeat' (first | exact Below.refl _ _ | refine below_alloc ?_ _)) hb h0)
        clear hb h0
        go_wp2_with fail
        refine (radd_n (valL la) (HS.out.get 0 rfl (by repeat' (first | exact Below.refl _ _ | refine below_alloc ?_ _))) (HS.out.get 4 rfl (by repeat' (first | exact Below.refl _ _ | refine below_alloc ?_ _))) (by rw [valL_limbs, valL_limbs]; exact HQ.out.2.2.2.2) (by have := K2.out; omega)).mono ?_
        rintro e w9 ⟨a_t, n_t, c_t, rfl, h0, hb⟩
        have L_t := Lib.hid h0.1
        replace HS := Lib.hid (HS.out.num (by repeat' (first | exact Below.refl _ _ | refine below_alloc ?_ _)) hb h0)
        clear hb h0
        go_wp2_with fail
        refine (rcmp_n (HS.out.get 0 rfl (by repeat' (first | exact Below.refl _ _ | refine below_alloc ?_ _))) (HS.out.get 7 rfl (by repeat' (first | exact Below.refl _ _ | refine below_alloc ?_ _))) (by have := K1.out; have := Ja.out; omega)).mono ?_
        rintro e w10 ⟨rfl, hb⟩
        replace HS := Lib.hid (HS.out.call (by repeat' (first | exact Below.refl _ _ | refine below_alloc ?_ _)) hb)
        clear hb 
        rw [hc2]
        go_wp2_with fail
        refine (known_any _ (hT.below HS.out.1)).mono ?_
        rintro e w11 ⟨rfl, hb⟩
        replace HS := Lib.hid (HS.out.call (by repeat' (first | exact Below.refl _ _ | refine below_alloc ?_ _)) hb)
        clear hb 
        go_wp2_with fail
        go_ret
        exact ⟨rfl, HS.out.1⟩

set_option maxRecDepth 100000 in
set_option maxHeartbeats 2000000 in
theorem w_NatRoots (w : World) (hT : Tab w) (a : Option Addr) (na ca : Nat) (la : List Nat) (Ha : Num w a na ca la) :
    Calls Tryd.prog 7 #[.slice a na ca] w fun e w' => e = .returned (.bool true) ∧ Below w.heap.size w w' := by
  have HS : Hid (At w w [(a, na, ca, la)]) := Lib.hid ⟨Below.refl _ _, Ha, trivial⟩
  have ma := num_max Ha
  have Ia : Hid (na = la.length ∧ Limbs la) := Lib.hid ⟨Ha.1, Ha.limbs⟩
  clear Ha
  go_enter Tryd.func7, Tryd.ntmps7
  go_wp2_with fail
  refine (long_any a na ca _ ma).mono ?_
  rintro e w' ⟨rfl, rfl⟩
  by_cases ga : (60 : Int) < (na : Int)
  · rw [decide_eq_true ga]
    go_wp2_with fail
    refine (known_any _ (hT.below HS.out.1)).mono ?_
    rintro e w1 ⟨rfl, hb⟩
    replace HS := Lib.hid (HS.out.call (by repeat' (first | exact Below.refl _ _ | refine below_alloc ?_ _)) hb)
    clear hb 
    go_wp2_with fail
    go_ret
    exact ⟨rfl, HS.out.1⟩
  · rw [decide_eq_false ga]
    have Ja : Hid (la.length ≤ 60) := Lib.hid (by have := Ia.out.1; omega)
    clear ga
    obtain ⟨S, hS⟩ : ∃ S, isqN (valL la) = S := ⟨_, rfl⟩
    have hs := isqN_spec (valL la)
    rw [hS] at hs
    obtain ⟨R, hR⟩ : ∃ R, valL la = S * S + R := ⟨valL la - S * S, by omega⟩
    have K1 : Hid ((limbs (valL la)).length ≤ 60) := Lib.hid (Nat.le_trans (len_of Ia.out.2) Ja.out)
    have hSle : S ≤ S * S := by
      rcases Nat.eq_zero_or_pos S with h | h
      · rw [h]; exact Nat.le_refl _
      · exact Nat.le_mul_of_pos_left S h
    have K2 : Hid ((limbs S).length ≤ 60 ∧ (limbs R).length ≤ 60 ∧ (limbs (S * S)).length ≤ 60 ∧ (limbs (S + 1)).length ≤ 62) := Lib.hid ⟨Nat.le_trans (length_mono (show S ≤ valL la by omega)) K1.out, Nat.le_trans (length_mono (show R ≤ valL la by omega)) K1.out, Nat.le_trans (length_mono (show S * S ≤ valL la by omega)) K1.out, by
      have h := len_add (limbs_limbs S) (show Limbs [1] from Limbs.cons (by decide) Limbs.nil)
      rw [valL_limbs] at h
      have h2 := Nat.le_trans (length_mono (show S ≤ valL la by omega)) K1.out
      have e : valL [1] = 1 := rfl
      rw [e] at h
      simp at h
      omega⟩
    have K3 : Hid ((limbs ((S + 1) * (S + 1))).length ≤ 124) := Lib.hid (by
      have h := len_mul (limbs_limbs (S + 1)) (limbs_limbs (S + 1))
      rw [valL_limbs] at h
      have := K2.out
      omega)
    have HQ : Hid (isqN (valL la) = S ∧ valL la = S * S + R ∧ valL la < (S + 1) * (S + 1)) := Lib.hid ⟨hS, hR, hs.2⟩
    have hc2 : cmpN (valL (limbs (valL la))) (valL la) = 0 := by rw [valL_limbs]; unfold cmpN; rw [if_neg (Nat.lt_irrefl _), if_neg (Nat.lt_irrefl _)]
    have hc3 : cmpN (valL (limbs ((S + 1) * (S + 1)))) (valL la) = 1 := by rw [valL_limbs]; unfold cmpN; rw [if_neg (by omega), if_pos hs.2]
    clear hS hs hR hSle
    go_wp2_with fail
    refine (sqrt_n S R (HS.out.get 0 rfl (by repeat' (first | exact Below.refl _ _ | refine below_alloc ?_ _))) HQ.out.1 HQ.out.2.1 (by have := Ja.out; omega)).mono ?_
    rintro e w1 ⟨a_s, n_s, c_s, a_r, n_r, c_r, rfl, h0, h1, hb⟩
    have L_s := Lib.hid h0.1
    have L_r := Lib.hid h1.1
    replace HS := Lib.hid ((HS.out.num (by repeat' (first | exact Below.refl _ _ | refine below_alloc ?_ _)) hb h0).num (Below.refl _ _) (Below.refl _ _) h1)
    clear hb h0 h1
    go_wp2_with fail
    refine (radd_n (S + 1) (HS.out.get 1 rfl (by repeat' (first | exact Below.refl _ _ | refine below_alloc ?_ _))) (by first | exact num_one (x := 1) (by first | rfl | (simp; done)) (by decide) | exact (num_one (x := 1) (by first | rfl | (simp; done)) (by decide)).below (by repeat' (first | exact Below.refl _ _ | refine below_alloc ?_ _))) (by rw [valL_limbs]; rfl) (by have := K2.out; simp; omega)).mono ?_
    rintro e w2 ⟨a_x, n_x, c_x, rfl, h0, hb⟩
    have L_x := Lib.hid h0.1
    replace HS := Lib.hid (HS.out.num (by repeat' (first | exact Below.refl _ _ | refine below_alloc ?_ _)) hb h0)
    clear hb h0
    go_wp2_with fail
    refine (num_any 0 _).mono ?_
    rintro e w' ⟨rfl, rfl⟩
    go_wp2_with fail
    refine (rnorm_n (HS.out.get 2 rfl (by repeat' (first | exact Below.refl _ _ | refine below_alloc ?_ _))) (by have := K2.out; omega)).mono ?_
    rintro e w3 ⟨a_s2, n_s2, c_s2, rfl, h0, hb⟩
    have L_s2 := Lib.hid h0.1
    replace HS := Lib.hid (HS.out.num (by repeat' (first | exact Below.refl _ _ | refine below_alloc ?_ _)) hb h0)
    clear hb h0
    go_wp2_with fail
    refine (same_n (HS.out.get 3 rfl (by repeat' (first | exact Below.refl _ _ | refine below_alloc ?_ _))) (HS.out.get 0 rfl (by repeat' (first | exact Below.refl _ _ | refine below_alloc ?_ _))) (by rw [valL_limbs]) (by have := K2.out; omega)).mono ?_
    rintro e w4 ⟨rfl, hb⟩
    replace HS := Lib.hid (HS.out.call (by repeat' (first | exact Below.refl _ _ | refine below_alloc ?_ _)) hb)
    clear hb 
    go_wp2_with fail
    refine (rnorm_n (HS.out.get 2 rfl (by repeat' (first | exact Below.refl _ _ | refine below_alloc ?_ _))) (by have := K2.out; omega)).mono ?_
    rintro e w5 ⟨a_r2, n_r2, c_r2, rfl, h0, hb⟩
    have L_r2 := Lib.hid h0.1
    replace HS := Lib.hid (HS.out.num (by repeat' (first | exact Below.refl _ _ | refine below_alloc ?_ _)) hb h0)
    clear hb h0
    go_wp2_with fail
    refine (same_n (HS.out.get 3 rfl (by repeat' (first | exact Below.refl _ _ | refine below_alloc ?_ _))) (HS.out.get 0 rfl (by repeat' (first | exact Below.refl _ _ | refine below_alloc ?_ _))) (by rw [valL_limbs]) (by have := K2.out; omega)).mono ?_
    rintro e w6 ⟨rfl, hb⟩
    replace HS := Lib.hid (HS.out.call (by repeat' (first | exact Below.refl _ _ | refine below_alloc ?_ _)) hb)
    clear hb 
    go_wp2_with fail
    refine (rmul_n (S * S) (HS.out.get 4 rfl (by repeat' (first | exact Below.refl _ _ | refine below_alloc ?_ _))) (HS.out.get 4 rfl (by repeat' (first | exact Below.refl _ _ | refine below_alloc ?_ _))) (by rw [valL_limbs]) (by have := K2.out; omega)).mono ?_
    rintro e w7 ⟨a_m, n_m, c_m, rfl, h0, hb⟩
    have L_m := Lib.hid h0.1
    replace HS := Lib.hid (HS.out.num (by repeat' (first | exact Below.refl _ _ | refine below_alloc ?_ _)) hb h0)
    clear hb h0
    go_wp2_with fail
    refine (radd_n (valL la) (HS.out.get 0 rfl (by repeat' (first | exact Below.refl _ _ | refine below_alloc ?_ _))) (HS.out.get 4 rfl (by repeat' (first | exact Below.refl _ _ | refine below_alloc ?_ _))) (by rw [valL_limbs, valL_limbs]; exact HQ.out.2.1.symm) (by have := K2.out; omega)).mono ?_
    rintro e w8 ⟨a_t, n_t, c_t, rfl, h0, hb⟩
    have L_t := Lib.hid h0.1
    replace HS := Lib.hid (HS.out.num (by repeat' (first | exact Below.refl _ _ | refine below_alloc ?_ _)) hb h0)
    clear hb h0
    go_wp2_with fail
    refine (rcmp_n (HS.out.get 0 rfl (by repeat' (first | exact Below.refl _ _ | refine below_alloc ?_ _))) (HS.out.get 7 rfl (by repeat' (first | exact Below.refl _ _ | refine below_alloc ?_ _))) (by have := K1.out; have := Ja.out; omega)).mono ?_
    rintro e w9 ⟨rfl, hb⟩
    replace HS := Lib.hid (HS.out.call (by repeat' (first | exact Below.refl _ _ | refine below_alloc ?_ _)) hb)
    clear hb 
    rw [hc2]
    go_wp2_with fail
    refine (rmul_n ((S + 1) * (S + 1)) (HS.out.get 4 rfl (by repeat' (first | exact Below.refl _ _ | refine below_alloc ?_ _))) (HS.out.get 4 rfl (by repeat' (first | exact Below.refl _ _ | refine below_alloc ?_ _))) (by rw [valL_limbs]) (by have := K2.out; omega)).mono ?_
    rintro e w10 ⟨a_m2, n_m2, c_m2, rfl, h0, hb⟩
    have L_m2 := Lib.hid h0.1
    replace HS := Lib.hid (HS.out.num (by repeat' (first | exact Below.refl _ _ | refine below_alloc ?_ _)) hb h0)
    clear hb h0
    go_wp2_with fail
    refine (rcmp_n (HS.out.get 0 rfl (by repeat' (first | exact Below.refl _ _ | refine below_alloc ?_ _))) (HS.out.get 8 rfl (by repeat' (first | exact Below.refl _ _ | refine below_alloc ?_ _))) (by have := K3.out; have := Ja.out; omega)).mono ?_
    rintro e w11 ⟨rfl, hb⟩
    replace HS := Lib.hid (HS.out.call (by repeat' (first | exact Below.refl _ _ | refine below_alloc ?_ _)) hb)
    clear hb 
    rw [hc3]
    go_wp2_with fail
    refine (known_any _ (hT.below HS.out.1)).mono ?_
    rintro e w12 ⟨rfl, hb⟩
    replace HS := Lib.hid (HS.out.call (by repeat' (first | exact Below.refl _ _ | refine below_alloc ?_ _)) hb)
    clear hb 
    go_wp2_with fail
    go_ret
    exact ⟨rfl, HS.out.1⟩
end Go.Proofs.YtjfjkabmpiebpaaDoor
