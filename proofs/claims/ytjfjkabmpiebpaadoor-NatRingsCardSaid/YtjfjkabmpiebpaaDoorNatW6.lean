/-
  Layer 2's laws, walked: NatRings (printed by natlaws.py).
-/
import Derived.Test.YtjfjkabmpiebpaaDoorNatWa
set_option linter.unusedSimpArgs false
set_option linter.unusedVariables false
namespace Go.Proofs.YtjfjkabmpiebpaaDoor
open Go.RowKit Go.Plumb

set_option maxRecDepth 100000 in
set_option maxHeartbeats 2000000 in
theorem w_NatRings (w : World) (hT : Tab w) (a : Option Addr) (na ca : Nat) (la : List Nat) (Ha : Num w a na ca la) (b : Option Addr) (nb cb : Nat) (lb : List Nat) (Hb : Num w b nb cb lb) (c : Option Addr) (nc cc : Nat) (lc : List Nat) (Hc : Num w c nc cc lc) :
    Calls Tryd.prog 10 #[.slice a na ca, .slice b nb cb, .slice c nc cc] w fun e w' => e = .returned (.bool true) ∧ Below w.heap.size w w' := by
  have HS : Hid (At w w [(a, na, ca, la), (b, nb, cb, lb), (c, nc, cc, lc)]) := Lib.hid ⟨Below.refl _ _, Ha, Hb, Hc, trivial⟩
  have ma := num_max Ha
  have Ia : Hid (na = la.length ∧ Limbs la) := Lib.hid ⟨Ha.1, Ha.limbs⟩
  have mb := num_max Hb
  have Ib : Hid (nb = lb.length ∧ Limbs lb) := Lib.hid ⟨Hb.1, Hb.limbs⟩
  have mc := num_max Hc
  have Ic : Hid (nc = lc.length ∧ Limbs lc) := Lib.hid ⟨Hc.1, Hc.limbs⟩
  clear Ha Hb Hc
  go_enter Tryd.func10, Tryd.ntmps10
  go_wp2_with fail
  refine (known_any _ (hT.below HS.out.1)).mono ?_
  rintro e w1 ⟨rfl, hb⟩
  replace HS := Lib.hid (HS.out.call (by repeat' (first | exact Below.refl _ _ | refine below_alloc ?_ _)) hb)
  clear hb 
  by_cases ga : (30 : Int) < (na : Int)
  · skip
    go_wp2_with fail
    go_ret
    exact ⟨rfl, HS.out.1⟩
  · skip
    by_cases gb : (30 : Int) < (nb : Int)
    · skip
      go_wp2_with fail
      go_ret
      exact ⟨rfl, HS.out.1⟩
    · skip
      by_cases gc : (30 : Int) < (nc : Int)
      · skip
        go_wp2_with fail
        go_ret
        exact ⟨rfl, HS.out.1⟩
      · skip
        have J : Hid (la.length ≤ 30 ∧ lb.length ≤ 30 ∧ lc.length ≤ 30) := Lib.hid (by have := Ia.out.1; have := Ib.out.1; have := Ic.out.1; omega)
        obtain ⟨A, hA⟩ : ∃ A, valL la = A := ⟨_, rfl⟩
        obtain ⟨B, hB⟩ : ∃ B, valL lb = B := ⟨_, rfl⟩
        obtain ⟨C, hC⟩ : ∃ C, valL lc = C := ⟨_, rfl⟩
        have V : Hid (valL la = A ∧ valL lb = B ∧ valL lc = C) := Lib.hid ⟨hA, hB, hC⟩
        have K : Hid ((limbs A).length ≤ 30 ∧ (limbs B).length ≤ 30 ∧ (limbs C).length ≤ 30 ∧ (limbs (A + B)).length ≤ 61 ∧ (limbs ((A + B) * C)).length ≤ 91 ∧ (limbs (A * C)).length ≤ 60 ∧ (limbs (C * B)).length ≤ 60) := Lib.hid (by
          have h1 := len_of Ia.out.2
          have h2 := len_of Ib.out.2
          have h3 := len_of Ic.out.2
          have h4 := len_add Ia.out.2 Ib.out.2
          have h5 := len_mul (limbs_limbs (A + B)) Ic.out.2
          have h6 := len_mul Ia.out.2 Ic.out.2
          have h7 := len_mul Ic.out.2 Ib.out.2
          rw [valL_limbs] at h5
          rw [hA] at h1 h4 h6
          rw [hB] at h2 h4 h7
          rw [hC] at h3 h5 h6 h7
          have := J.out
          refine ⟨?_, ?_, ?_, ?_, ?_, ?_, ?_⟩ <;> omega)
        have hV : readVN (⟨(textN A).toArray⟩ : ByteArray).data.toList = A := (readVN_ok (okT_text A).1).trans (okT_text A).2
        have hE : readEN (⟨(textN A).toArray⟩ : ByteArray).data.toList = 0 := readEN_ok (okT_text A).1
        have HV := Lib.hid hV
        have hsz : (⟨(textN A).toArray⟩ : ByteArray).size ≤ 1200 := by
          have := textN_length A 30 K.out.1 (by decide)
          rw [Lib.size_mk]; omega
        have HSZ := Lib.hid hsz
        have HA := Lib.hid hA
        clear hB hC hsz hV hA
        go_wp2_with fail
        refine (add_n (A + B) (HS.out.get 0 rfl (by repeat' (first | exact Below.refl _ _ | refine below_alloc ?_ _))) (HS.out.get 1 rfl (by repeat' (first | exact Below.refl _ _ | refine below_alloc ?_ _))) (by rw [V.out.1, V.out.2.1]) (by have := J.out; have := K.out; omega)).mono ?_
        rintro e w2 ⟨a_s, n_s, c_s, rfl, h0, hb⟩
        have L_s := Lib.hid h0.1
        replace HS := Lib.hid (HS.out.num (by repeat' (first | exact Below.refl _ _ | refine below_alloc ?_ _)) hb h0)
        clear hb h0
        go_wp2_with fail
        refine (add_n (A + B) (HS.out.get 2 rfl (by repeat' (first | exact Below.refl _ _ | refine below_alloc ?_ _))) (HS.out.get 1 rfl (by repeat' (first | exact Below.refl _ _ | refine below_alloc ?_ _))) (by rw [V.out.1, V.out.2.1, Nat.add_comm]) (by have := J.out; have := K.out; omega)).mono ?_
        rintro e w3 ⟨a_t, n_t, c_t, rfl, h0, hb⟩
        have L_t := Lib.hid h0.1
        replace HS := Lib.hid (HS.out.num (by repeat' (first | exact Below.refl _ _ | refine below_alloc ?_ _)) hb h0)
        clear hb h0
        go_wp2_with fail
        refine (mul_n ((A + B) * C) (HS.out.get 1 rfl (by repeat' (first | exact Below.refl _ _ | refine below_alloc ?_ _))) (HS.out.get 4 rfl (by repeat' (first | exact Below.refl _ _ | refine below_alloc ?_ _))) (by rw [valL_limbs, V.out.2.2]) (by have := J.out; have := K.out; omega)).mono ?_
        rintro e w4 ⟨a_u, n_u, c_u, rfl, h0, hb⟩
        have L_u := Lib.hid h0.1
        replace HS := Lib.hid (HS.out.num (by repeat' (first | exact Below.refl _ _ | refine below_alloc ?_ _)) hb h0)
        clear hb h0
        go_wp2_with fail
        refine (mul_n (A * C) (HS.out.get 3 rfl (by repeat' (first | exact Below.refl _ _ | refine below_alloc ?_ _))) (HS.out.get 5 rfl (by repeat' (first | exact Below.refl _ _ | refine below_alloc ?_ _))) (by rw [V.out.1, V.out.2.2]) (by have := J.out; have := K.out; omega)).mono ?_
        rintro e w5 ⟨a_x, n_x, c_x, rfl, h0, hb⟩
        have L_x := Lib.hid h0.1
        replace HS := Lib.hid (HS.out.num (by repeat' (first | exact Below.refl _ _ | refine below_alloc ?_ _)) hb h0)
        clear hb h0
        go_wp2_with fail
        refine (mul_n (C * B) (HS.out.get 6 rfl (by repeat' (first | exact Below.refl _ _ | refine below_alloc ?_ _))) (HS.out.get 5 rfl (by repeat' (first | exact Below.refl _ _ | refine below_alloc ?_ _))) (by rw [V.out.2.1, V.out.2.2]) (by have := J.out; have := K.out; omega)).mono ?_
        rintro e w6 ⟨a_y, n_y, c_y, rfl, h0, hb⟩
        have L_y := Lib.hid h0.1
        replace HS := Lib.hid (HS.out.num (by repeat' (first | exact Below.refl _ _ | refine below_alloc ?_ _)) hb h0)
        clear hb h0
        go_wp2_with fail
        refine (add_n ((A + B) * C) (HS.out.get 1 rfl (by repeat' (first | exact Below.refl _ _ | refine below_alloc ?_ _))) (HS.out.get 0 rfl (by repeat' (first | exact Below.refl _ _ | refine below_alloc ?_ _))) (by rw [valL_limbs, valL_limbs, Nat.add_mul, Nat.mul_comm C B]) (by have := J.out; have := K.out; omega)).mono ?_
        rintro e w7 ⟨a_v, n_v, c_v, rfl, h0, hb⟩
        have L_v := Lib.hid h0.1
        replace HS := Lib.hid (HS.out.num (by repeat' (first | exact Below.refl _ _ | refine below_alloc ?_ _)) hb h0)
        clear hb h0
        go_wp2_with fail
        refine (sub_n A (HS.out.get 5 rfl (by repeat' (first | exact Below.refl _ _ | refine below_alloc ?_ _))) (HS.out.get 7 rfl (by repeat' (first | exact Below.refl _ _ | refine below_alloc ?_ _))) (by rw [valL_limbs, V.out.2.1, Nat.add_comm]) (by have := J.out; have := K.out; omega)).mono ?_
        rintro e w8 ⟨a_d, n_d, c_d, rfl, h0, hb⟩
        have L_d := Lib.hid h0.1
        replace HS := Lib.hid (HS.out.num (by repeat' (first | exact Below.refl _ _ | refine below_alloc ?_ _)) hb h0)
        clear hb h0
        go_wp2_with fail
        refine (same_n (HS.out.get 6 rfl (by repeat' (first | exact Below.refl _ _ | refine below_alloc ?_ _))) (HS.out.get 5 rfl (by repeat' (first | exact Below.refl _ _ | refine below_alloc ?_ _))) rfl (by have := J.out; have := K.out; omega)).mono ?_
        rintro e w9 ⟨rfl, hb⟩
        replace HS := Lib.hid (HS.out.call (by repeat' (first | exact Below.refl _ _ | refine below_alloc ?_ _)) hb)
        clear hb 
        go_wp2_with fail
        refine (same_n (HS.out.get 4 rfl (by repeat' (first | exact Below.refl _ _ | refine below_alloc ?_ _))) (HS.out.get 1 rfl (by repeat' (first | exact Below.refl _ _ | refine below_alloc ?_ _))) rfl (by have := J.out; have := K.out; omega)).mono ?_
        rintro e w10 ⟨rfl, hb⟩
        replace HS := Lib.hid (HS.out.call (by repeat' (first | exact Below.refl _ _ | refine below_alloc ?_ _)) hb)
        clear hb 
        go_wp2_with fail
        refine (num_any 0 _).mono ?_
        rintro e w' ⟨rfl, rfl⟩
        go_wp2_with fail
        refine (rnorm_n (HS.out.get 7 rfl (by repeat' (first | exact Below.refl _ _ | refine below_alloc ?_ _))) (by have := J.out; have := K.out; omega)).mono ?_
        rintro e w11 ⟨a_na, n_na, c_na, rfl, h0, hb⟩
        have L_na := Lib.hid h0.1
        replace HS := Lib.hid (HS.out.num (by repeat' (first | exact Below.refl _ _ | refine below_alloc ?_ _)) hb h0)
        clear hb h0
        go_wp2_with fail
        refine (same_n (HS.out.get 1 rfl (by repeat' (first | exact Below.refl _ _ | refine below_alloc ?_ _))) (HS.out.get 0 rfl (by repeat' (first | exact Below.refl _ _ | refine below_alloc ?_ _))) (by rw [V.out.1]) (by have := J.out; have := K.out; omega)).mono ?_
        rintro e w12 ⟨rfl, hb⟩
        replace HS := Lib.hid (HS.out.call (by repeat' (first | exact Below.refl _ _ | refine below_alloc ?_ _)) hb)
        clear hb 
        go_wp2_with fail
        refine (rnorm_n (HS.out.get 10 rfl (by repeat' (first | exact Below.refl _ _ | refine below_alloc ?_ _))) (by have := J.out; have := K.out; omega)).mono ?_
        rintro e w13 ⟨a_nc, n_nc, c_nc, rfl, h0, hb⟩
        have L_nc := Lib.hid h0.1
        replace HS := Lib.hid (HS.out.num (by repeat' (first | exact Below.refl _ _ | refine below_alloc ?_ _)) hb h0)
        clear hb h0
        by_cases h0 : C = 0
        · skip
          obtain rfl : n_nc = 0 := by have := L_nc.out; rw [V.out.2.2, h0, limbs_zero] at this; exact this
          clear h0
          go_wp2_with fail
          refine (text_n (HS.out.get 9 rfl (by repeat' (first | exact Below.refl _ _ | refine below_alloc ?_ _))) (by have := J.out; have := K.out; omega)).mono ?_
          rintro e w14 ⟨rfl, hb⟩
          replace HS := Lib.hid (HS.out.call (by repeat' (first | exact Below.refl _ _ | refine below_alloc ?_ _)) hb)
          clear hb 
          rw [HA.out]
          go_wp2_with fail
          refine (read_n _ HSZ.out).mono ?_
          rintro e w15 ⟨a_k, n_k, c_k, rfl, h0, hb⟩
          have L_k := Lib.hid h0.1
          replace HS := Lib.hid (HS.out.num (by repeat' (first | exact Below.refl _ _ | refine below_alloc ?_ _)) hb h0)
          clear hb h0
          rw [hE]
          go_wp2_with fail
          refine (num_any 0 _).mono ?_
          rintro e w' ⟨rfl, rfl⟩
          go_wp2_with fail
          refine (num_any 0 _).mono ?_
          rintro e w' ⟨rfl, rfl⟩
          go_wp2_with fail
          refine (same_n (HS.out.get 0 rfl (by repeat' (first | exact Below.refl _ _ | refine below_alloc ?_ _))) (HS.out.get 3 rfl (by repeat' (first | exact Below.refl _ _ | refine below_alloc ?_ _))) (by rw [HV.out]) (by rw [HV.out]; have := K.out; omega)).mono ?_
          rintro e w16 ⟨rfl, hb⟩
          replace HS := Lib.hid (HS.out.call (by repeat' (first | exact Below.refl _ _ | refine below_alloc ?_ _)) hb)
          clear hb 
          go_wp2_with fail
          go_ret
          exact ⟨rfl, HS.out.1⟩
        · skip
          have hny : 0 < n_nc := by
            have := L_nc.out
            rw [V.out.2.2] at this
            rw [this]
            apply Nat.pos_of_ne_zero
            intro h
            exact h0 ((limbs_nil_iff _).1 (List.eq_nil_of_length_eq_zero h))
          have H0 := Lib.hid h0
          clear h0
          go_wp2_with fail
          refine (div_n A 0 (HS.out.get 5 rfl (by repeat' (first | exact Below.refl _ _ | refine below_alloc ?_ _))) (HS.out.get 11 rfl (by repeat' (first | exact Below.refl _ _ | refine below_alloc ?_ _))) (by rw [V.out.2.2]; exact H0.out) (by rw [valL_limbs, V.out.2.2]; exact Nat.mul_div_cancel A (Nat.pos_of_ne_zero H0.out)) (by rw [valL_limbs, V.out.2.2]; exact Nat.mul_mod_left A C) (by have := J.out; have := K.out; omega)).mono ?_
          rintro e w14 ⟨a_q, n_q, c_q, a_r, n_r, c_r, rfl, h0, h1, hb⟩
          have L_q := Lib.hid h0.1
          have L_r := Lib.hid h1.1
          replace HS := Lib.hid ((HS.out.num (by repeat' (first | exact Below.refl _ _ | refine below_alloc ?_ _)) hb h0).num (Below.refl _ _) (Below.refl _ _) h1)
          clear hb h0 h1
          go_wp2_with fail
          refine (num_any 0 _).mono ?_
          rintro e w' ⟨rfl, rfl⟩
          go_wp2_with fail
          refine (same_n (HS.out.get 1 rfl (by repeat' (first | exact Below.refl _ _ | refine below_alloc ?_ _))) (HS.out.get 4 rfl (by repeat' (first | exact Below.refl _ _ | refine below_alloc ?_ _))) rfl (by have := J.out; have := K.out; omega)).mono ?_
          rintro e w15 ⟨rfl, hb⟩
          replace HS := Lib.hid (HS.out.call (by repeat' (first | exact Below.refl _ _ | refine below_alloc ?_ _)) hb)
          clear hb 
          obtain rfl : n_r = 0 := by have := L_r.out; rw [limbs_zero] at this; exact this
          go_wp2_with fail
          refine (text_n (HS.out.get 11 rfl (by repeat' (first | exact Below.refl _ _ | refine below_alloc ?_ _))) (by have := J.out; have := K.out; omega)).mono ?_
          rintro e w16 ⟨rfl, hb⟩
          replace HS := Lib.hid (HS.out.call (by repeat' (first | exact Below.refl _ _ | refine below_alloc ?_ _)) hb)
          clear hb 
          rw [HA.out]
          go_wp2_with fail
          refine (read_n _ HSZ.out).mono ?_
          rintro e w17 ⟨a_k, n_k, c_k, rfl, h0, hb⟩
          have L_k := Lib.hid h0.1
          replace HS := Lib.hid (HS.out.num (by repeat' (first | exact Below.refl _ _ | refine below_alloc ?_ _)) hb h0)
          clear hb h0
          rw [hE]
          go_wp2_with fail
          refine (num_any 0 _).mono ?_
          rintro e w' ⟨rfl, rfl⟩
          go_wp2_with fail
          refine (num_any 0 _).mono ?_
          rintro e w' ⟨rfl, rfl⟩
          go_wp2_with fail
          refine (same_n (HS.out.get 0 rfl (by repeat' (first | exact Below.refl _ _ | refine below_alloc ?_ _))) (HS.out.get 5 rfl (by repeat' (first | exact Below.refl _ _ | refine below_alloc ?_ _))) (by rw [HV.out]) (by rw [HV.out]; have := K.out; omega)).mono ?_
          rintro e w18 ⟨rfl, hb⟩
          replace HS := Lib.hid (HS.out.call (by repeat' (first | exact Below.refl _ _ | refine below_alloc ?_ _)) hb)
          clear hb 
          go_wp2_with fail
          go_ret
          exact ⟨rfl, HS.out.1⟩
end Go.Proofs.YtjfjkabmpiebpaaDoor
