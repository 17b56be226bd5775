/-
  Layer 2's laws, walked: NatCompares, NatMuls, NatSubs (printed by natlaws.py).
-/
import Derived.Test.YtjfjkabmpiebpaaDoorNatWa
set_option linter.unusedSimpArgs false
set_option linter.unusedVariables false
namespace Go.Proofs.YtjfjkabmpiebpaaDoor
open Go.RowKit Go.Plumb

set_option maxRecDepth 100000 in
set_option maxHeartbeats 2000000 in
theorem w_NatCompares (w : World) (hT : Tab w) (a : Option Addr) (na ca : Nat) (la : List Nat) (Ha : Num w a na ca la) (b : Option Addr) (nb cb : Nat) (lb : List Nat) (Hb : Num w b nb cb lb) :
    Calls Tryd.prog 13 #[.slice a na ca, .slice b nb cb] w fun e w' => e = .returned (.bool true) ∧ Below w.heap.size w w' := by
  have HS : Hid (At w w [(a, na, ca, la), (b, nb, cb, lb)]) := Lib.hid ⟨Below.refl _ _, Ha, Hb, trivial⟩
  have ma := num_max Ha
  have Ia : Hid (na = la.length ∧ Limbs la) := Lib.hid ⟨Ha.1, Ha.limbs⟩
  have mb := num_max Hb
  have Ib : Hid (nb = lb.length ∧ Limbs lb) := Lib.hid ⟨Hb.1, Hb.limbs⟩
  clear Ha Hb
  go_enter Tryd.func13, Tryd.ntmps13
  go_wp2_with fail
  refine (long_any a na ca _ ma).mono ?_
  rintro e w' ⟨rfl, rfl⟩
  by_cases ga : (60 : Int) < (na : Int)
  · rw [decide_eq_true ga]
    go_wp2_with fail
    refine (known_any _ (hT.below HS.out.1)).mono ?_
    rintro e w1 ⟨rfl, hb⟩
    replace HS := Lib.hid (HS.out.call (by repeat' (first | exact Below.refl _ _ | refine below_alloc ?_ _)) hb)
    clear hb 
    go_wp2_with fail
    go_ret
    exact ⟨rfl, HS.out.1⟩
  · rw [decide_eq_false ga]
    go_wp2_with fail
    refine (long_any b nb cb _ mb).mono ?_
    rintro e w' ⟨rfl, rfl⟩
    by_cases gb : (60 : Int) < (nb : Int)
    · rw [decide_eq_true gb]
      go_wp2_with fail
      refine (known_any _ (hT.below HS.out.1)).mono ?_
      rintro e w1 ⟨rfl, hb⟩
      replace HS := Lib.hid (HS.out.call (by repeat' (first | exact Below.refl _ _ | refine below_alloc ?_ _)) hb)
      clear hb 
      go_wp2_with fail
      go_ret
      exact ⟨rfl, HS.out.1⟩
    · rw [decide_eq_false gb]
      have Ja : Hid (la.length ≤ 60) := Lib.hid (by have := Ia.out.1; omega)
      clear ga
      have Jb : Hid (lb.length ≤ 60) := Lib.hid (by have := Ib.out.1; omega)
      clear gb
      have K1 : Hid ((limbs (valL la)).length ≤ 60) := Lib.hid (Nat.le_trans (len_of Ia.out.2) Ja.out)
      obtain ⟨Z, hZ⟩ : ∃ Z, cmpN (valL la) (valL lb) = Z := ⟨_, rfl⟩
      go_wp2_with fail
      refine (cmp_n (HS.out.get 0 rfl (by repeat' (first | exact Below.refl _ _ | refine below_alloc ?_ _))) (HS.out.get 1 rfl (by repeat' (first | exact Below.refl _ _ | refine below_alloc ?_ _))) (by have ja := Ja.out; have jb := Jb.out; omega)).mono ?_
      rintro e w1 ⟨rfl, hb⟩
      replace HS := Lib.hid (HS.out.call (by repeat' (first | exact Below.refl _ _ | refine below_alloc ?_ _)) hb)
      clear hb 
      rw [hZ]
      go_wp2_with fail
      refine (norm_n (HS.out.get 0 rfl (by repeat' (first | exact Below.refl _ _ | refine below_alloc ?_ _))) (by have ja := Ja.out; omega)).mono ?_
      rintro e w2 ⟨a_x, n_x, c_x, rfl, h0, hb⟩
      have L_x := Lib.hid h0.1
      replace HS := Lib.hid (HS.out.num (by repeat' (first | exact Below.refl _ _ | refine below_alloc ?_ _)) hb h0)
      clear hb h0
      go_wp2_with fail
      refine (rcmp_n (HS.out.get 1 rfl (by repeat' (first | exact Below.refl _ _ | refine below_alloc ?_ _))) (HS.out.get 2 rfl (by repeat' (first | exact Below.refl _ _ | refine below_alloc ?_ _))) (by have ja := Ja.out; have jb := Jb.out; omega)).mono ?_
      rintro e w3 ⟨rfl, hb⟩
      replace HS := Lib.hid (HS.out.call (by repeat' (first | exact Below.refl _ _ | refine below_alloc ?_ _)) hb)
      clear hb 
      rw [hZ]
      go_wp2_with fail
      refine (num_any 0 _).mono ?_
      rintro e w' ⟨rfl, rfl⟩
      go_wp2_with fail
      refine (num_any 0 _).mono ?_
      rintro e w' ⟨rfl, rfl⟩
      go_wp2_with fail
      refine (rnorm_n (HS.out.get 1 rfl (by repeat' (first | exact Below.refl _ _ | refine below_alloc ?_ _))) (by have ja := Ja.out; omega)).mono ?_
      rintro e w4 ⟨a_y, n_y, c_y, rfl, h0, hb⟩
      have L_y := Lib.hid h0.1
      replace HS := Lib.hid (HS.out.num (by repeat' (first | exact Below.refl _ _ | refine below_alloc ?_ _)) hb h0)
      clear hb h0
      go_wp2_with fail
      refine (same_n (HS.out.get 1 rfl (by repeat' (first | exact Below.refl _ _ | refine below_alloc ?_ _))) (HS.out.get 0 rfl (by repeat' (first | exact Below.refl _ _ | refine below_alloc ?_ _))) rfl (by have := K1.out; omega)).mono ?_
      rintro e w5 ⟨rfl, hb⟩
      replace HS := Lib.hid (HS.out.call (by repeat' (first | exact Below.refl _ _ | refine below_alloc ?_ _)) hb)
      clear hb 
      go_wp2_with fail
      refine (known_any _ (hT.below HS.out.1)).mono ?_
      rintro e w6 ⟨rfl, hb⟩
      replace HS := Lib.hid (HS.out.call (by repeat' (first | exact Below.refl _ _ | refine below_alloc ?_ _)) hb)
      clear hb 
      go_wp2_with fail
      go_ret
      exact ⟨rfl, HS.out.1⟩

set_option maxRecDepth 100000 in
set_option maxHeartbeats 2000000 in
theorem w_NatMuls (w : World) (hT : Tab w) (a : Option Addr) (na ca : Nat) (la : List Nat) (Ha : Num w a na ca la) (b : Option Addr) (nb cb : Nat) (lb : List Nat) (Hb : Num w b nb cb lb) :
    Calls Tryd.prog 5 #[.slice a na ca, .slice b nb cb] w fun e w' => e = .returned (.bool true) ∧ Below w.heap.size w w' := by
  have HS : Hid (At w w [(a, na, ca, la), (b, nb, cb, lb)]) := Lib.hid ⟨Below.refl _ _, Ha, Hb, trivial⟩
  have ma := num_max Ha
  have Ia : Hid (na = la.length ∧ Limbs la) := Lib.hid ⟨Ha.1, Ha.limbs⟩
  have mb := num_max Hb
  have Ib : Hid (nb = lb.length ∧ Limbs lb) := Lib.hid ⟨Hb.1, Hb.limbs⟩
  clear Ha Hb
  go_enter Tryd.func5, Tryd.ntmps5
  go_wp2_with fail
  refine (long_any a na ca _ ma).mono ?_
  rintro e w' ⟨rfl, rfl⟩
  by_cases ga : (60 : Int) < (na : Int)
  · rw [decide_eq_true ga]
    go_wp2_with fail
    refine (known_any _ (hT.below HS.out.1)).mono ?_
    rintro e w1 ⟨rfl, hb⟩
    replace HS := Lib.hid (HS.out.call (by repeat' (first | exact Below.refl _ _ | refine below_alloc ?_ _)) hb)
    clear hb 
    go_wp2_with fail
    go_ret
    exact ⟨rfl, HS.out.1⟩
  · rw [decide_eq_false ga]
    go_wp2_with fail
    refine (long_any b nb cb _ mb).mono ?_
    rintro e w' ⟨rfl, rfl⟩
    by_cases gb : (60 : Int) < (nb : Int)
    · rw [decide_eq_true gb]
      go_wp2_with fail
      refine (known_any _ (hT.below HS.out.1)).mono ?_
      rintro e w1 ⟨rfl, hb⟩
      replace HS := Lib.hid (HS.out.call (by repeat' (first | exact Below.refl _ _ | refine below_alloc ?_ _)) hb)
      clear hb 
      go_wp2_with fail
      go_ret
      exact ⟨rfl, HS.out.1⟩
    · rw [decide_eq_false gb]
      have Ja : Hid (la.length ≤ 60) := Lib.hid (by have := Ia.out.1; omega)
      clear ga
      have Jb : Hid (lb.length ≤ 60) := Lib.hid (by have := Ib.out.1; omega)
      clear gb
      have K1 : Hid ((limbs (valL la * valL lb)).length ≤ 120) := Lib.hid (Nat.le_trans (len_mul Ia.out.2 Ib.out.2) (by have := Ja.out; have := Jb.out; omega))
      go_wp2_with fail
      refine (mul_n _ (HS.out.get 0 rfl (by repeat' (first | exact Below.refl _ _ | refine below_alloc ?_ _))) (HS.out.get 1 rfl (by repeat' (first | exact Below.refl _ _ | refine below_alloc ?_ _))) rfl (by have ja := Ja.out; have jb := Jb.out; omega)).mono ?_
      rintro e w1 ⟨a_p, n_p, c_p, rfl, h0, hb⟩
      have L_p := Lib.hid h0.1
      replace HS := Lib.hid (HS.out.num (by repeat' (first | exact Below.refl _ _ | refine below_alloc ?_ _)) hb h0)
      clear hb h0
      go_wp2_with fail
      refine (rmul_n _ (HS.out.get 1 rfl (by repeat' (first | exact Below.refl _ _ | refine below_alloc ?_ _))) (HS.out.get 2 rfl (by repeat' (first | exact Below.refl _ _ | refine below_alloc ?_ _))) rfl (by have ja := Ja.out; have jb := Jb.out; omega)).mono ?_
      rintro e w2 ⟨a_y, n_y, c_y, rfl, h0, hb⟩
      have L_y := Lib.hid h0.1
      replace HS := Lib.hid (HS.out.num (by repeat' (first | exact Below.refl _ _ | refine below_alloc ?_ _)) hb h0)
      clear hb h0
      go_wp2_with fail
      refine (same_n (HS.out.get 1 rfl (by repeat' (first | exact Below.refl _ _ | refine below_alloc ?_ _))) (HS.out.get 0 rfl (by repeat' (first | exact Below.refl _ _ | refine below_alloc ?_ _))) rfl (by have := K1.out; omega)).mono ?_
      rintro e w3 ⟨rfl, hb⟩
      replace HS := Lib.hid (HS.out.call (by repeat' (first | exact Below.refl _ _ | refine below_alloc ?_ _)) hb)
      clear hb 
      go_wp2_with fail
      refine (num_any 0 _).mono ?_
      rintro e w' ⟨rfl, rfl⟩
      go_wp2_with fail
      refine (known_any _ (hT.below HS.out.1)).mono ?_
      rintro e w4 ⟨rfl, hb⟩
      replace HS := Lib.hid (HS.out.call (by repeat' (first | exact Below.refl _ _ | refine below_alloc ?_ _)) hb)
      clear hb 
      go_wp2_with fail
      go_ret
      exact ⟨rfl, HS.out.1⟩

set_option maxRecDepth 100000 in
set_option maxHeartbeats 2000000 in
theorem w_NatSubs (w : World) (hT : Tab w) (a : Option Addr) (na ca : Nat) (la : List Nat) (Ha : Num w a na ca la) (b : Option Addr) (nb cb : Nat) (lb : List Nat) (Hb : Num w b nb cb lb) :
    Calls Tryd.prog 4 #[.slice a na ca, .slice b nb cb] w fun e w' => e = .returned (.bool true) ∧ Below w.heap.size w w' := by
  have HS : Hid (At w w [(a, na, ca, la), (b, nb, cb, lb)]) := Lib.hid ⟨Below.refl _ _, Ha, Hb, trivial⟩
  have ma := num_max Ha
  have Ia : Hid (na = la.length ∧ Limbs la) := Lib.hid ⟨Ha.1, Ha.limbs⟩
  have mb := num_max Hb
  have Ib : Hid (nb = lb.length ∧ Limbs lb) := Lib.hid ⟨Hb.1, Hb.limbs⟩
  clear Ha Hb
  go_enter Tryd.func4, Tryd.ntmps4
  go_wp2_with fail
  refine (long_any a na ca _ ma).mono ?_
  rintro e w' ⟨rfl, rfl⟩
  by_cases ga : (60 : Int) < (na : Int)
  · rw [decide_eq_true ga]
    go_wp2_with fail
    refine (known_any _ (hT.below HS.out.1)).mono ?_
    rintro e w1 ⟨rfl, hb⟩
    replace HS := Lib.hid (HS.out.call (by repeat' (first | exact Below.refl _ _ | refine below_alloc ?_ _)) hb)
    clear hb 
    go_wp2_with fail
    go_ret
    exact ⟨rfl, HS.out.1⟩
  · rw [decide_eq_false ga]
    go_wp2_with fail
    refine (long_any b nb cb _ mb).mono ?_
    rintro e w' ⟨rfl, rfl⟩
    by_cases gb : (60 : Int) < (nb : Int)
    · rw [decide_eq_true gb]
      go_wp2_with fail
      refine (known_any _ (hT.below HS.out.1)).mono ?_
      rintro e w1 ⟨rfl, hb⟩
      replace HS := Lib.hid (HS.out.call (by repeat' (first | exact Below.refl _ _ | refine below_alloc ?_ _)) hb)
      clear hb 
      go_wp2_with fail
      go_ret
      exact ⟨rfl, HS.out.1⟩
    · rw [decide_eq_false gb]
      have Ja : Hid (la.length ≤ 60) := Lib.hid (by have := Ia.out.1; omega)
      clear ga
      have Jb : Hid (lb.length ≤ 60) := Lib.hid (by have := Ib.out.1; omega)
      clear gb
      by_cases hlt : valL la < valL lb
      · have hc : cmpN (valL la) (valL lb) = -1 := by unfold cmpN; rw [if_pos hlt]
        go_wp2_with fail
        refine (sub_n_less (HS.out.get 0 rfl (by repeat' (first | exact Below.refl _ _ | refine below_alloc ?_ _))) (HS.out.get 1 rfl (by repeat' (first | exact Below.refl _ _ | refine below_alloc ?_ _))) hlt (by have ja := Ja.out; have jb := Jb.out; omega)).mono ?_
        rintro e w1 ⟨rfl, hb⟩
        replace HS := Lib.hid (HS.out.call (by repeat' (first | exact Below.refl _ _ | refine below_alloc ?_ _)) hb)
        clear hb 
        go_wp2_with fail
        refine (rcmp_n (HS.out.get 0 rfl (by repeat' (first | exact Below.refl _ _ | refine below_alloc ?_ _))) (HS.out.get 1 rfl (by repeat' (first | exact Below.refl _ _ | refine below_alloc ?_ _))) (by have ja := Ja.out; have jb := Jb.out; omega)).mono ?_
        rintro e w2 ⟨rfl, hb⟩
        replace HS := Lib.hid (HS.out.call (by repeat' (first | exact Below.refl _ _ | refine below_alloc ?_ _)) hb)
        clear hb 
        rw [hc]
        clear hlt hc
        go_wp2_with fail
        refine (num_any 2 _).mono ?_
        rintro e w' ⟨rfl, rfl⟩
        go_wp2_with fail
        refine (known_any _ (hT.below HS.out.1)).mono ?_
        rintro e w3 ⟨rfl, hb⟩
        replace HS := Lib.hid (HS.out.call (by repeat' (first | exact Below.refl _ _ | refine below_alloc ?_ _)) hb)
        clear hb 
        go_wp2_with fail
        go_ret
        exact ⟨rfl, HS.out.1⟩
      · obtain ⟨X, hX⟩ : ∃ X, valL la = valL lb + X := ⟨valL la - valL lb, by omega⟩
        have hc : ∃ z, cmpN (valL la) (valL lb) = z ∧ 0 ≤ z := ⟨_, rfl, by unfold cmpN; rw [if_neg hlt]; split <;> omega⟩
        obtain ⟨z, hz, hz0⟩ := hc
        have K1 : Hid ((limbs X).length ≤ 60) := Lib.hid (Nat.le_trans (length_mono (show X ≤ valL la by omega)) (Nat.le_trans (len_of Ia.out.2) Ja.out))
        have HX := Lib.hid hX
        clear hX hlt
        go_wp2_with fail
        refine (sub_n X (HS.out.get 0 rfl (by repeat' (first | exact Below.refl _ _ | refine below_alloc ?_ _))) (HS.out.get 1 rfl (by repeat' (first | exact Below.refl _ _ | refine below_alloc ?_ _))) HX.out (by have ja := Ja.out; have jb := Jb.out; omega)).mono ?_
        rintro e w1 ⟨a_s, n_s, c_s, rfl, h0, hb⟩
        have L_s := Lib.hid h0.1
        replace HS := Lib.hid (HS.out.num (by repeat' (first | exact Below.refl _ _ | refine below_alloc ?_ _)) hb h0)
        clear hb h0
        go_wp2_with fail
        refine (rcmp_n (HS.out.get 1 rfl (by repeat' (first | exact Below.refl _ _ | refine below_alloc ?_ _))) (HS.out.get 2 rfl (by repeat' (first | exact Below.refl _ _ | refine below_alloc ?_ _))) (by have ja := Ja.out; have jb := Jb.out; omega)).mono ?_
        rintro e w2 ⟨rfl, hb⟩
        replace HS := Lib.hid (HS.out.call (by repeat' (first | exact Below.refl _ _ | refine below_alloc ?_ _)) hb)
        clear hb 
        rw [hz]
        clear hz
        go_wp2_with fail
        refine (rsub_n X (HS.out.get 1 rfl (by repeat' (first | exact Below.refl _ _ | refine below_alloc ?_ _))) (HS.out.get 2 rfl (by repeat' (first | exact Below.refl _ _ | refine below_alloc ?_ _))) HX.out (by have ja := Ja.out; have jb := Jb.out; omega)).mono ?_
        rintro e w3 ⟨a_y, n_y, c_y, rfl, h0, hb⟩
        have L_y := Lib.hid h0.1
        replace HS := Lib.hid (HS.out.num (by repeat' (first | exact Below.refl _ _ | refine below_alloc ?_ _)) hb h0)
        clear hb h0
        go_wp2_with fail
        refine (same_n (HS.out.get 1 rfl (by repeat' (first | exact Below.refl _ _ | refine below_alloc ?_ _))) (HS.out.get 0 rfl (by repeat' (first | exact Below.refl _ _ | refine below_alloc ?_ _))) rfl (by have := K1.out; omega)).mono ?_
        rintro e w4 ⟨rfl, hb⟩
        replace HS := Lib.hid (HS.out.call (by repeat' (first | exact Below.refl _ _ | refine below_alloc ?_ _)) hb)
        clear hb 
        go_wp2_with fail
        refine (num_any 0 _).mono ?_
        rintro e w' ⟨rfl, rfl⟩
        go_wp2_with fail
        refine (known_any _ (hT.below HS.out.1)).mono ?_
        rintro e w5 ⟨rfl, hb⟩
        replace HS := Lib.hid (HS.out.call (by repeat' (first | exact Below.refl _ _ | refine below_alloc ?_ _)) hb)
        clear hb 
        go_wp2_with fail
        go_ret
        exact ⟨rfl, HS.out.1⟩
end Go.Proofs.YtjfjkabmpiebpaaDoor
