/-
  Layer 2's laws, walked: NatTexts (printed by natlaws.py).
-/
import Derived.Test.YtjfjkabmpiebpaaDoorNatWa
set_option linter.unusedSimpArgs false
set_option linter.unusedVariables false
namespace Go.Proofs.YtjfjkabmpiebpaaDoor
open Go.RowKit Go.Plumb

set_option maxRecDepth 100000 in
set_option maxHeartbeats 2000000 in
theorem w_NatTexts (w : World) (hT : Tab w) (a : Option Addr) (na ca : Nat) (la : List Nat) (Ha : Num w a na ca la) (s : ByteArray) (hs : s.size ≤ 9223372036854775807) :
    Calls Tryd.prog 9 #[.slice a na ca, .string s] w fun e w' => e = .returned (.bool true) ∧ Below w.heap.size w w' := by
  have HS : Hid (At w w [(a, na, ca, la)]) := Lib.hid ⟨Below.refl _ _, Ha, trivial⟩
  have ma := num_max Ha
  have Ia : Hid (na = la.length ∧ Limbs la) := Lib.hid ⟨Ha.1, Ha.limbs⟩
  clear Ha
  go_enter Tryd.func9, Tryd.ntmps9
  go_wp2_with fail
  refine (long_any a na ca _ ma).mono ?_
  rintro e w' ⟨rfl, rfl⟩
  by_cases ga : (60 : Int) < (na : Int)
  · rw [decide_eq_true ga]
    go_wp2_with fail
    refine (known_any _ (hT.below HS.out.1)).mono ?_
    rintro e w1 ⟨rfl, hb⟩
    replace HS := Lib.hid (HS.out.call (by repeat' (first | exact Below.refl _ _ | refine below_alloc ?_ _)) hb)
    clear hb 
    go_wp2_with fail
    go_ret
    exact ⟨rfl, HS.out.1⟩
  · rw [decide_eq_false ga]
    have Ja : Hid (la.length ≤ 60) := Lib.hid (by have := Ia.out.1; omega)
    clear ga
    by_cases g : (1200 : Int) < (s.size : Int)
    · skip
      go_wp2_with fail
      refine (known_any _ (hT.below HS.out.1)).mono ?_
      rintro e w1 ⟨rfl, hb⟩
      replace HS := Lib.hid (HS.out.call (by repeat' (first | exact Below.refl _ _ | refine below_alloc ?_ _)) hb)
      clear hb 
      go_wp2_with fail
      go_ret
      exact ⟨rfl, HS.out.1⟩
    · skip
      have hs2 : s.size ≤ 1200 := by omega
      have HS2 := Lib.hid hs2
      have K1 : Hid ((limbs (readVN s.data.toList)).length ≤ 1200) := Lib.hid (by
        by_cases h : okT s.data.toList
        · rw [readVN_ok h]
          exact Nat.le_trans (ten_limbs _ _ (decV_lt _ h.2.2)) (by rw [← Lib.size_eq]; exact hs2)
        · rw [readVN_bad h, limbs_zero]; exact Nat.zero_le _)
      obtain ⟨T, hT0⟩ : ∃ T, (⟨(textN (valL la)).toArray⟩ : ByteArray) = T := ⟨_, rfl⟩
      obtain ⟨E, hE⟩ : ∃ E, readEN s.data.toList = E := ⟨_, rfl⟩
      clear hs2 hs
      go_wp2_with fail
      refine (text_n (HS.out.get 0 rfl (by repeat' (first | exact Below.refl _ _ | refine below_alloc ?_ _))) (by have ja := Ja.out; omega)).mono ?_
      rintro e w1 ⟨rfl, hb⟩
      replace HS := Lib.hid (HS.out.call (by repeat' (first | exact Below.refl _ _ | refine below_alloc ?_ _)) hb)
      clear hb 
      rw [hT0]
      go_wp2_with fail
      refine (read_n s HS2.out).mono ?_
      rintro e w2 ⟨a_b, n_b, c_b, rfl, h0, hb⟩
      have L_b := Lib.hid h0.1
      replace HS := Lib.hid (HS.out.num (by repeat' (first | exact Below.refl _ _ | refine below_alloc ?_ _)) hb h0)
      clear hb h0
      rw [hE]
      go_wp2_with fail
      refine (rread_n s HS2.out).mono ?_
      rintro e w3 ⟨a_c, n_c, c_c, rfl, h0, hb⟩
      have L_c := Lib.hid h0.1
      replace HS := Lib.hid (HS.out.num (by repeat' (first | exact Below.refl _ _ | refine below_alloc ?_ _)) hb h0)
      clear hb h0
      rw [hE]
      clear hE
      go_wp2_with fail
      refine (rtext_n (HS.out.get 2 rfl (by repeat' (first | exact Below.refl _ _ | refine below_alloc ?_ _))) (by have ja := Ja.out; omega)).mono ?_
      rintro e w4 ⟨rfl, hb⟩
      replace HS := Lib.hid (HS.out.call (by repeat' (first | exact Below.refl _ _ | refine below_alloc ?_ _)) hb)
      clear hb 
      rw [hT0]
      clear hT0
      go_wp2_with fail
      refine (num_any 0 _).mono ?_
      rintro e w' ⟨rfl, rfl⟩
      go_wp2_with fail
      refine (same_n (HS.out.get 1 rfl (by repeat' (first | exact Below.refl _ _ | refine below_alloc ?_ _))) (HS.out.get 0 rfl (by repeat' (first | exact Below.refl _ _ | refine below_alloc ?_ _))) rfl (by have := K1.out; omega)).mono ?_
      rintro e w5 ⟨rfl, hb⟩
      replace HS := Lib.hid (HS.out.call (by repeat' (first | exact Below.refl _ _ | refine below_alloc ?_ _)) hb)
      clear hb 
      go_wp2_with fail
      refine (num_any E _).mono ?_
      rintro e w' ⟨rfl, rfl⟩
      go_wp2_with fail
      refine (known_any _ (hT.below HS.out.1)).mono ?_
      rintro e w6 ⟨rfl, hb⟩
      replace HS := Lib.hid (HS.out.call (by repeat' (first | exact Below.refl _ _ | refine below_alloc ?_ _)) hb)
      clear hb 
      go_wp2_with fail
      go_ret
      exact ⟨rfl, HS.out.1⟩
end Go.Proofs.YtjfjkabmpiebpaaDoor
