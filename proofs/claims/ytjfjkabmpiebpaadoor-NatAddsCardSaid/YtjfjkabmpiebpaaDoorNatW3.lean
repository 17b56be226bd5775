/-
  Layer 2's laws, walked: NatAdds (printed by natlaws.py).
-/
import Derived.Test.YtjfjkabmpiebpaaDoorNatWa
set_option linter.unusedSimpArgs false
set_option linter.unusedVariables false
namespace Go.Proofs.YtjfjkabmpiebpaaDoor
open Go.RowKit Go.Plumb

set_option maxRecDepth 100000 in
set_option maxHeartbeats 2000000 in
theorem w_NatAdds (w : World) (hT : Tab w) (a : Option Addr) (na ca : Nat) (la : List Nat) (Ha : Num w a na ca la) (b : Option Addr) (nb cb : Nat) (lb : List Nat) (Hb : Num w b nb cb lb) :
    Calls Tryd.prog 3 #[.slice a na ca, .slice b nb cb] w fun e w' => e = .returned (.bool true) ∧ Below w.heap.size w w' := by
  have HS : Hid (At w w [(a, na, ca, la), (b, nb, cb, lb)]) := Lib.hid ⟨Below.refl _ _, Ha, Hb, trivial⟩
  have ma := num_max Ha
  have Ia : Hid (na = la.length ∧ Limbs la) := Lib.hid ⟨Ha.1, Ha.limbs⟩
  have mb := num_max Hb
  have Ib : Hid (nb = lb.length ∧ Limbs lb) := Lib.hid ⟨Hb.1, Hb.limbs⟩
  clear Ha Hb
  go_enter Tryd.func3, Tryd.ntmps3
  go_wp2_with fail
  refine (long_any a na ca _ ma).mono ?_
  rintro e w' ⟨rfl, rfl⟩
  by_cases ga : (60 : Int) < (na : Int)
  · rw [decide_eq_true ga]
    go_wp2_with fail
    refine (known_any _ (hT.below HS.out.1)).mono ?_
    rintro e w1 ⟨rfl, hb⟩
    replace HS := Lib.hid (HS.out.call (by repeat' (first | exact Below.refl _ _ | refine below_alloc ?_ _)) hb)
    clear hb 
    go_wp2_with fail
    go_ret
    exact ⟨rfl, HS.out.1⟩
  · rw [decide_eq_false ga]
    go_wp2_with fail
    refine (long_any b nb cb _ mb).mono ?_
    rintro e w' ⟨rfl, rfl⟩
    by_cases gb : (60 : Int) < (nb : Int)
    · rw [decide_eq_true gb]
      go_wp2_with fail
      refine (known_any _ (hT.below HS.out.1)).mono ?_
      rintro e w1 ⟨rfl, hb⟩
      replace HS := Lib.hid (HS.out.call (by repeat' (first | exact Below.refl _ _ | refine below_alloc ?_ _)) hb)
      clear hb 
      go_wp2_with fail
      go_ret
      exact ⟨rfl, HS.out.1⟩
    · rw [decide_eq_false gb]
      have Ja : Hid (la.length ≤ 60) := Lib.hid (by have := Ia.out.1; omega)
      clear ga
      have Jb : Hid (lb.length ≤ 60) := Lib.hid (by have := Ib.out.1; omega)
      clear gb
      obtain ⟨i0, hi, hz0, hz1, hz2⟩ := info_parts info_u64
      have K1 : Hid ((limbs (valL la + valL lb)).length ≤ 121) := Lib.hid (Nat.le_trans (len_add Ia.out.2 Ib.out.2) (by have := Ja.out; have := Jb.out; omega))
      have qa := num_addr (HS.out.get 0 rfl (Below.refl _ _))
      have qb := num_addr (HS.out.get 1 rfl (Below.refl _ _))
      rcases qa with ⟨rfl, rfl⟩ | ⟨ada, rfl, rfl⟩ | ⟨ba, oa, rfl⟩
      · skip
        rcases qb with ⟨rfl, rfl⟩ | ⟨adb, rfl, rfl⟩ | ⟨bb, ob, rfl⟩
        · skip
          go_wp2_with fail
          have ea : la = [] := List.eq_nil_of_length_eq_zero Ia.out.1.symm
          have eb : lb = [] := List.eq_nil_of_length_eq_zero Ib.out.1.symm
          refine (add_n (l := la) (k := lb) _ (ea ▸ Num.nil _) (eb ▸ Num.nil _) rfl (by have ja := Ja.out; have jb := Jb.out; omega)).mono ?_
          rintro e w1 ⟨a_s, n_s, c_s, rfl, h0, hb⟩
          have L_s := Lib.hid h0.1
          replace HS := Lib.hid (HS.out.num (by repeat' (first | exact Below.refl _ _ | refine below_alloc ?_ _)) hb h0)
          clear hb h0
          go_wp2_with fail
          refine (radd_n _ (HS.out.get 1 rfl (by repeat' (first | exact Below.refl _ _ | refine below_alloc ?_ _))) (HS.out.get 2 rfl (by repeat' (first | exact Below.refl _ _ | refine below_alloc ?_ _))) rfl (by have ja := Ja.out; have jb := Jb.out; omega)).mono ?_
          rintro e w2 ⟨a_t, n_t, c_t, rfl, h0, hb⟩
          have L_t := Lib.hid h0.1
          replace HS := Lib.hid (HS.out.num (by repeat' (first | exact Below.refl _ _ | refine below_alloc ?_ _)) hb h0)
          clear hb h0
          go_wp2_with fail
          refine (same_n (HS.out.get 1 rfl (by repeat' (first | exact Below.refl _ _ | refine below_alloc ?_ _))) (HS.out.get 0 rfl (by repeat' (first | exact Below.refl _ _ | refine below_alloc ?_ _))) rfl (by have := K1.out; omega)).mono ?_
          rintro e w3 ⟨rfl, hb⟩
          replace HS := Lib.hid (HS.out.call (by repeat' (first | exact Below.refl _ _ | refine below_alloc ?_ _)) hb)
          clear hb 
          go_wp2_with fail
          refine (num_any 0 _).mono ?_
          rintro e w' ⟨rfl, rfl⟩
          go_wp2_with fail
          refine (same_n (l := la) (ea ▸ Num.nil _) (HS.out.get 2 rfl (by repeat' (first | exact Below.refl _ _ | refine below_alloc ?_ _))) rfl (by have := Ja.out; omega)).mono ?_
          rintro e w4 ⟨rfl, hb⟩
          replace HS := Lib.hid (HS.out.call (by repeat' (first | exact Below.refl _ _ | refine below_alloc ?_ _)) hb)
          clear hb 
          go_wp2_with fail
          refine (same_n (l := lb) (eb ▸ Num.nil _) (HS.out.get 3 rfl (by repeat' (first | exact Below.refl _ _ | refine below_alloc ?_ _))) rfl (by have := Jb.out; omega)).mono ?_
          rintro e w5 ⟨rfl, hb⟩
          replace HS := Lib.hid (HS.out.call (by repeat' (first | exact Below.refl _ _ | refine below_alloc ?_ _)) hb)
          clear hb 
          go_wp2_with fail
          refine (known_any _ (hT.below HS.out.1)).mono ?_
          rintro e w6 ⟨rfl, hb⟩
          replace HS := Lib.hid (HS.out.call (by repeat' (first | exact Below.refl _ _ | refine below_alloc ?_ _)) hb)
          clear hb 
          go_wp2_with fail
          go_ret
          exact ⟨rfl, HS.out.1⟩
        · skip
          go_wp2_with fail
          have ea : la = [] := List.eq_nil_of_length_eq_zero Ia.out.1.symm
          have eb : lb = [] := List.eq_nil_of_length_eq_zero Ib.out.1.symm
          refine (add_n (l := la) (k := lb) _ (ea ▸ Num.nil _) (eb ▸ Num.nil _) rfl (by have ja := Ja.out; have jb := Jb.out; omega)).mono ?_
          rintro e w1 ⟨a_s, n_s, c_s, rfl, h0, hb⟩
          have L_s := Lib.hid h0.1
          replace HS := Lib.hid (HS.out.num (by repeat' (first | exact Below.refl _ _ | refine below_alloc ?_ _)) hb h0)
          clear hb h0
          go_wp2_with fail
          refine (radd_n _ (HS.out.get 1 rfl (by repeat' (first | exact Below.refl _ _ | refine below_alloc ?_ _))) (HS.out.get 2 rfl (by repeat' (first | exact Below.refl _ _ | refine below_alloc ?_ _))) rfl (by have ja := Ja.out; have jb := Jb.out; omega)).mono ?_
          rintro e w2 ⟨a_t, n_t, c_t, rfl, h0, hb⟩
          have L_t := Lib.hid h0.1
          replace HS := Lib.hid (HS.out.num (by repeat' (first | exact Below.refl _ _ | refine below_alloc ?_ _)) hb h0)
          clear hb h0
          go_wp2_with fail
          refine (same_n (HS.out.get 1 rfl (by repeat' (first | exact Below.refl _ _ | refine below_alloc ?_ _))) (HS.out.get 0 rfl (by repeat' (first | exact Below.refl _ _ | refine below_alloc ?_ _))) rfl (by have := K1.out; omega)).mono ?_
          rintro e w3 ⟨rfl, hb⟩
          replace HS := Lib.hid (HS.out.call (by repeat' (first | exact Below.refl _ _ | refine below_alloc ?_ _)) hb)
          clear hb 
          go_wp2_with fail
          refine (num_any 0 _).mono ?_
          rintro e w' ⟨rfl, rfl⟩
          go_wp2_with fail
          refine (same_n (l := la) (ea ▸ Num.nil _) (HS.out.get 2 rfl (by repeat' (first | exact Below.refl _ _ | refine below_alloc ?_ _))) rfl (by have := Ja.out; omega)).mono ?_
          rintro e w4 ⟨rfl, hb⟩
          replace HS := Lib.hid (HS.out.call (by repeat' (first | exact Below.refl _ _ | refine below_alloc ?_ _)) hb)
          clear hb 
          go_wp2_with fail
          refine (same_n (l := lb) (eb ▸ Num.nil _) (HS.out.get 3 rfl (by repeat' (first | exact Below.refl _ _ | refine below_alloc ?_ _))) rfl (by have := Jb.out; omega)).mono ?_
          rintro e w5 ⟨rfl, hb⟩
          replace HS := Lib.hid (HS.out.call (by repeat' (first | exact Below.refl _ _ | refine below_alloc ?_ _)) hb)
          clear hb 
          go_wp2_with fail
          refine (known_any _ (hT.below HS.out.1)).mono ?_
          rintro e w6 ⟨rfl, hb⟩
          replace HS := Lib.hid (HS.out.call (by repeat' (first | exact Below.refl _ _ | refine below_alloc ?_ _)) hb)
          clear hb 
          go_wp2_with fail
          go_ret
          exact ⟨rfl, HS.out.1⟩
        · skip
          go_wp2_with (first | (at_builtin; refine wpList_append_own _ rfl _ _ 22 rfl w.heap.size 36 i0 (.int .u64 0) 1 8 Tryd.underlying22 hi hz0 hz1 hz2 rfl (by decide) _ 0 [] rfl (World.ownsRow_nil _ _ _ _) ⟨bb, ob, none⟩ nb cb (lb.map limbV) rfl (by rw [List.length_map, Nat.mul_one]; exact Ib.out.1.symm) (num_cells (HS.out.get 1 rfl (Below.refl _ _))) limb_one (by have := Ib.out.1; have := Jb.out; unfold maxLen; omega) (by have := Ib.out.1; have := Jb.out; omega) HS.out.1.size ?_; intro v' w' hown hgrow _; obtain ⟨a_y, n_y, c_y, rfl, h0⟩ := app_num Ib.out.1 Ib.out.2 hown; replace HS := Lib.hid (HS.out.num (Below.refl _ _) (grown_none hgrow) h0); clear h0 hown hgrow))
          have ea : la = [] := List.eq_nil_of_length_eq_zero Ia.out.1.symm
          refine (add_n (l := la) (k := lb) _ (ea ▸ Num.nil _) (HS.out.get 0 rfl (by repeat' (first | exact Below.refl _ _ | refine below_alloc ?_ _))) rfl (by have ja := Ja.out; have jb := Jb.out; omega)).mono ?_
          rintro e w1 ⟨a_s, n_s, c_s, rfl, h0, hb⟩
          have L_s := Lib.hid h0.1
          replace HS := Lib.hid (HS.out.num (by repeat' (first | exact Below.refl _ _ | refine below_alloc ?_ _)) hb h0)
          clear hb h0
          go_wp2_with fail
          refine (radd_n _ (HS.out.get 2 rfl (by repeat' (first | exact Below.refl _ _ | refine below_alloc ?_ _))) (HS.out.get 3 rfl (by repeat' (first | exact Below.refl _ _ | refine below_alloc ?_ _))) rfl (by have ja := Ja.out; have jb := Jb.out; omega)).mono ?_
          rintro e w2 ⟨a_t, n_t, c_t, rfl, h0, hb⟩
          have L_t := Lib.hid h0.1
          replace HS := Lib.hid (HS.out.num (by repeat' (first | exact Below.refl _ _ | refine below_alloc ?_ _)) hb h0)
          clear hb h0
          go_wp2_with fail
          refine (same_n (HS.out.get 1 rfl (by repeat' (first | exact Below.refl _ _ | refine below_alloc ?_ _))) (HS.out.get 0 rfl (by repeat' (first | exact Below.refl _ _ | refine below_alloc ?_ _))) rfl (by have := K1.out; omega)).mono ?_
          rintro e w3 ⟨rfl, hb⟩
          replace HS := Lib.hid (HS.out.call (by repeat' (first | exact Below.refl _ _ | refine below_alloc ?_ _)) hb)
          clear hb 
          go_wp2_with fail
          refine (num_any 0 _).mono ?_
          rintro e w' ⟨rfl, rfl⟩
          go_wp2_with fail
          refine (same_n (l := la) (ea ▸ Num.nil _) (HS.out.get 3 rfl (by repeat' (first | exact Below.refl _ _ | refine below_alloc ?_ _))) rfl (by have := Ja.out; omega)).mono ?_
          rintro e w4 ⟨rfl, hb⟩
          replace HS := Lib.hid (HS.out.call (by repeat' (first | exact Below.refl _ _ | refine below_alloc ?_ _)) hb)
          clear hb 
          go_wp2_with fail
          refine (same_n (l := lb) (HS.out.get 2 rfl (by repeat' (first | exact Below.refl _ _ | refine below_alloc ?_ _))) (HS.out.get 4 rfl (by repeat' (first | exact Below.refl _ _ | refine below_alloc ?_ _))) rfl (by have := Jb.out; omega)).mono ?_
          rintro e w5 ⟨rfl, hb⟩
          replace HS := Lib.hid (HS.out.call (by repeat' (first | exact Below.refl _ _ | refine below_alloc ?_ _)) hb)
          clear hb 
          go_wp2_with fail
          refine (known_any _ (hT.below HS.out.1)).mono ?_
          rintro e w6 ⟨rfl, hb⟩
          replace HS := Lib.hid (HS.out.call (by repeat' (first | exact Below.refl _ _ | refine below_alloc ?_ _)) hb)
          clear hb 
          go_wp2_with fail
          go_ret
          exact ⟨rfl, HS.out.1⟩
      · skip
        rcases qb with ⟨rfl, rfl⟩ | ⟨adb, rfl, rfl⟩ | ⟨bb, ob, rfl⟩
        · skip
          go_wp2_with fail
          have ea : la = [] := List.eq_nil_of_length_eq_zero Ia.out.1.symm
          have eb : lb = [] := List.eq_nil_of_length_eq_zero Ib.out.1.symm
          refine (add_n (l := la) (k := lb) _ (ea ▸ Num.nil _) (eb ▸ Num.nil _) rfl (by have ja := Ja.out; have jb := Jb.out; omega)).mono ?_
          rintro e w1 ⟨a_s, n_s, c_s, rfl, h0, hb⟩
          have L_s := Lib.hid h0.1
          replace HS := Lib.hid (HS.out.num (by repeat' (first | exact Below.refl _ _ | refine below_alloc ?_ _)) hb h0)
          clear hb h0
          go_wp2_with fail
          refine (radd_n _ (HS.out.get 1 rfl (by repeat' (first | exact Below.refl _ _ | refine below_alloc ?_ _))) (HS.out.get 2 rfl (by repeat' (first | exact Below.refl _ _ | refine below_alloc ?_ _))) rfl (by have ja := Ja.out; have jb := Jb.out; omega)).mono ?_
          rintro e w2 ⟨a_t, n_t, c_t, rfl, h0, hb⟩
          have L_t := Lib.hid h0.1
          replace HS := Lib.hid (HS.out.num (by repeat' (first | exact Below.refl _ _ | refine below_alloc ?_ _)) hb h0)
          clear hb h0
          go_wp2_with fail
          refine (same_n (HS.out.get 1 rfl (by repeat' (first | exact Below.refl _ _ | refine below_alloc ?_ _))) (HS.out.get 0 rfl (by repeat' (first | exact Below.refl _ _ | refine below_alloc ?_ _))) rfl (by have := K1.out; omega)).mono ?_
          rintro e w3 ⟨rfl, hb⟩
          replace HS := Lib.hid (HS.out.call (by repeat' (first | exact Below.refl _ _ | refine below_alloc ?_ _)) hb)
          clear hb 
          go_wp2_with fail
          refine (num_any 0 _).mono ?_
          rintro e w' ⟨rfl, rfl⟩
          go_wp2_with fail
          refine (same_n (l := la) (ea ▸ Num.nil _) (HS.out.get 2 rfl (by repeat' (first | exact Below.refl _ _ | refine below_alloc ?_ _))) rfl (by have := Ja.out; omega)).mono ?_
          rintro e w4 ⟨rfl, hb⟩
          replace HS := Lib.hid (HS.out.call (by repeat' (first | exact Below.refl _ _ | refine below_alloc ?_ _)) hb)
          clear hb 
          go_wp2_with fail
          refine (same_n (l := lb) (eb ▸ Num.nil _) (HS.out.get 3 rfl (by repeat' (first | exact Below.refl _ _ | refine below_alloc ?_ _))) rfl (by have := Jb.out; omega)).mono ?_
          rintro e w5 ⟨rfl, hb⟩
          replace HS := Lib.hid (HS.out.call (by repeat' (first | exact Below.refl _ _ | refine below_alloc ?_ _)) hb)
          clear hb 
          go_wp2_with fail
          refine (known_any _ (hT.below HS.out.1)).mono ?_
          rintro e w6 ⟨rfl, hb⟩
          replace HS := Lib.hid (HS.out.call (by repeat' (first | exact Below.refl _ _ | refine below_alloc ?_ _)) hb)
          clear hb 
          go_wp2_with fail
          go_ret
          exact ⟨rfl, HS.out.1⟩
        · skip
          go_wp2_with fail
          have ea : la = [] := List.eq_nil_of_length_eq_zero Ia.out.1.symm
          have eb : lb = [] := List.eq_nil_of_length_eq_zero Ib.out.1.symm
          refine (add_n (l := la) (k := lb) _ (ea ▸ Num.nil _) (eb ▸ Num.nil _) rfl (by have ja := Ja.out; have jb := Jb.out; omega)).mono ?_
          rintro e w1 ⟨a_s, n_s, c_s, rfl, h0, hb⟩
          have L_s := Lib.hid h0.1
          replace HS := Lib.hid (HS.out.num (by repeat' (first | exact Below.refl _ _ | refine below_alloc ?_ _)) hb h0)
          clear hb h0
          go_wp2_with fail
          refine (radd_n _ (HS.out.get 1 rfl (by repeat' (first | exact Below.refl _ _ | refine below_alloc ?_ _))) (HS.out.get 2 rfl (by repeat' (first | exact Below.refl _ _ | refine below_alloc ?_ _))) rfl (by have ja := Ja.out; have jb := Jb.out; omega)).mono ?_
          rintro e w2 ⟨a_t, n_t, c_t, rfl, h0, hb⟩
          have L_t := Lib.hid h0.1
          replace HS := Lib.hid (HS.out.num (by repeat' (first | exact Below.refl _ _ | refine below_alloc ?_ _)) hb h0)
          clear hb h0
          go_wp2_with fail
          refine (same_n (HS.out.get 1 rfl (by repeat' (first | exact Below.refl _ _ | refine below_alloc ?_ _))) (HS.out.get 0 rfl (by repeat' (first | exact Below.refl _ _ | refine below_alloc ?_ _))) rfl (by have := K1.out; omega)).mono ?_
          rintro e w3 ⟨rfl, hb⟩
          replace HS := Lib.hid (HS.out.call (by repeat' (first | exact Below.refl _ _ | refine below_alloc ?_ _)) hb)
          clear hb 
          go_wp2_with fail
          refine (num_any 0 _).mono ?_
          rintro e w' ⟨rfl, rfl⟩
          go_wp2_with fail
          refine (same_n (l := la) (ea ▸ Num.nil _) (HS.out.get 2 rfl (by repeat' (first | exact Below.refl _ _ | refine below_alloc ?_ _))) rfl (by have := Ja.out; omega)).mono ?_
          rintro e w4 ⟨rfl, hb⟩
          replace HS := Lib.hid (HS.out.call (by repeat' (first | exact Below.refl _ _ | refine below_alloc ?_ _)) hb)
          clear hb 
          go_wp2_with fail
          refine (same_n (l := lb) (eb ▸ Num.nil _) (HS.out.get 3 rfl (by repeat' (first | exact Below.refl _ _ | refine below_alloc ?_ _))) rfl (by have := Jb.out; omega)).mono ?_
          rintro e w5 ⟨rfl, hb⟩
          replace HS := Lib.hid (HS.out.call (by repeat' (first | exact Below.refl _ _ | refine below_alloc ?_ _)) hb)
          clear hb 
          go_wp2_with fail
          refine (known_any _ (hT.below HS.out.1)).mono ?_
          rintro e w6 ⟨rfl, hb⟩
          replace HS := Lib.hid (HS.out.call (by repeat' (first | exact Below.refl _ _ | refine below_alloc ?_ _)) hb)
          clear hb 
          go_wp2_with fail
          go_ret
          exact ⟨rfl, HS.out.1⟩
        · skip
          go_wp2_with (first | (at_builtin; refine wpList_append_own _ rfl _ _ 22 rfl w.heap.size 36 i0 (.int .u64 0) 1 8 Tryd.underlying22 hi hz0 hz1 hz2 rfl (by decide) _ 0 [] rfl (World.ownsRow_nil _ _ _ _) ⟨bb, ob, none⟩ nb cb (lb.map limbV) rfl (by rw [List.length_map, Nat.mul_one]; exact Ib.out.1.symm) (num_cells (HS.out.get 1 rfl (Below.refl _ _))) limb_one (by have := Ib.out.1; have := Jb.out; unfold maxLen; omega) (by have := Ib.out.1; have := Jb.out; omega) HS.out.1.size ?_; intro v' w' hown hgrow _; obtain ⟨a_y, n_y, c_y, rfl, h0⟩ := app_num Ib.out.1 Ib.out.2 hown; replace HS := Lib.hid (HS.out.num (Below.refl _ _) (grown_none hgrow) h0); clear h0 hown hgrow))
          have ea : la = [] := List.eq_nil_of_length_eq_zero Ia.out.1.symm
          refine (add_n (l := la) (k := lb) _ (ea ▸ Num.nil _) (HS.out.get 0 rfl (by repeat' (first | exact Below.refl _ _ | refine below_alloc ?_ _))) rfl (by have ja := Ja.out; have jb := Jb.out; omega)).mono ?_
          rintro e w1 ⟨a_s, n_s, c_s, rfl, h0, hb⟩
          have L_s := Lib.hid h0.1
          replace HS := Lib.hid (HS.out.num (by repeat' (first | exact Below.refl _ _ | refine below_alloc ?_ _)) hb h0)
          clear hb h0
          go_wp2_with fail
          refine (radd_n _ (HS.out.get 2 rfl (by repeat' (first | exact Below.refl _ _ | refine below_alloc ?_ _))) (HS.out.get 3 rfl (by repeat' (first | exact Below.refl _ _ | refine below_alloc ?_ _))) rfl (by have ja := Ja.out; have jb := Jb.out; omega)).mono ?_
          rintro e w2 ⟨a_t, n_t, c_t, rfl, h0, hb⟩
          have L_t := Lib.hid h0.1
          replace HS := Lib.hid (HS.out.num (by repeat' (first | exact Below.refl _ _ | refine below_alloc ?_ _)) hb h0)
          clear hb h0
          go_wp2_with fail
          refine (same_n (HS.out.get 1 rfl (by repeat' (first | exact Below.refl _ _ | refine below_alloc ?_ _))) (HS.out.get 0 rfl (by repeat' (first | exact Below.refl _ _ | refine below_alloc ?_ _))) rfl (by have := K1.out; omega)).mono ?_
          rintro e w3 ⟨rfl, hb⟩
          replace HS := Lib.hid (HS.out.call (by repeat' (first | exact Below.refl _ _ | refine below_alloc ?_ _)) hb)
          clear hb 
          go_wp2_with fail
          refine (num_any 0 _).mono ?_
          rintro e w' ⟨rfl, rfl⟩
          go_wp2_with fail
          refine (same_n (l := la) (ea ▸ Num.nil _) (HS.out.get 3 rfl (by repeat' (first | exact Below.refl _ _ | refine below_alloc ?_ _))) rfl (by have := Ja.out; omega)).mono ?_
          rintro e w4 ⟨rfl, hb⟩
          replace HS := Lib.hid (HS.out.call (by repeat' (first | exact Below.refl _ _ | refine below_alloc ?_ _)) hb)
          clear hb 
          go_wp2_with fail
          refine (same_n (l := lb) (HS.out.get 2 rfl (by repeat' (first | exact Below.refl _ _ | refine below_alloc ?_ _))) (HS.out.get 4 rfl (by repeat' (first | exact Below.refl _ _ | refine below_alloc ?_ _))) rfl (by have := Jb.out; omega)).mono ?_
          rintro e w5 ⟨rfl, hb⟩
          replace HS := Lib.hid (HS.out.call (by repeat' (first | exact Below.refl _ _ | refine below_alloc ?_ _)) hb)
          clear hb 
          go_wp2_with fail
          refine (known_any _ (hT.below HS.out.1)).mono ?_
          rintro e w6 ⟨rfl, hb⟩
          replace HS := Lib.hid (HS.out.call (by repeat' (first | exact Below.refl _ _ | refine below_alloc ?_ _)) hb)
          clear hb 
          go_wp2_with fail
          go_ret
          exact ⟨rfl, HS.out.1⟩
      · skip
        rcases qb with ⟨rfl, rfl⟩ | ⟨adb, rfl, rfl⟩ | ⟨bb, ob, rfl⟩
        · skip
          go_wp2_with (first | (at_builtin; refine wpList_append_own _ rfl _ _ 22 rfl w.heap.size 36 i0 (.int .u64 0) 1 8 Tryd.underlying22 hi hz0 hz1 hz2 rfl (by decide) _ 0 [] rfl (World.ownsRow_nil _ _ _ _) ⟨ba, oa, none⟩ na ca (la.map limbV) rfl (by rw [List.length_map, Nat.mul_one]; exact Ia.out.1.symm) (num_cells (HS.out.get 0 rfl (Below.refl _ _))) limb_one (by have := Ia.out.1; have := Ja.out; unfold maxLen; omega) (by have := Ia.out.1; have := Ja.out; omega) HS.out.1.size ?_; intro v' w' hown hgrow _; obtain ⟨a_x, n_x, c_x, rfl, h0⟩ := app_num Ia.out.1 Ia.out.2 hown; replace HS := Lib.hid (HS.out.num (Below.refl _ _) (grown_none hgrow) h0); clear h0 hown hgrow))
          have eb : lb = [] := List.eq_nil_of_length_eq_zero Ib.out.1.symm
          refine (add_n (l := la) (k := lb) _ (HS.out.get 0 rfl (by repeat' (first | exact Below.refl _ _ | refine below_alloc ?_ _))) (eb ▸ Num.nil _) rfl (by have ja := Ja.out; have jb := Jb.out; omega)).mono ?_
          rintro e w1 ⟨a_s, n_s, c_s, rfl, h0, hb⟩
          have L_s := Lib.hid h0.1
          replace HS := Lib.hid (HS.out.num (by repeat' (first | exact Below.refl _ _ | refine below_alloc ?_ _)) hb h0)
          clear hb h0
          go_wp2_with fail
          refine (radd_n _ (HS.out.get 2 rfl (by repeat' (first | exact Below.refl _ _ | refine below_alloc ?_ _))) (HS.out.get 3 rfl (by repeat' (first | exact Below.refl _ _ | refine below_alloc ?_ _))) rfl (by have ja := Ja.out; have jb := Jb.out; omega)).mono ?_
          rintro e w2 ⟨a_t, n_t, c_t, rfl, h0, hb⟩
          have L_t := Lib.hid h0.1
          replace HS := Lib.hid (HS.out.num (by repeat' (first | exact Below.refl _ _ | refine below_alloc ?_ _)) hb h0)
          clear hb h0
          go_wp2_with fail
          refine (same_n (HS.out.get 1 rfl (by repeat' (first | exact Below.refl _ _ | refine below_alloc ?_ _))) (HS.out.get 0 rfl (by repeat' (first | exact Below.refl _ _ | refine below_alloc ?_ _))) rfl (by have := K1.out; omega)).mono ?_
          rintro e w3 ⟨rfl, hb⟩
          replace HS := Lib.hid (HS.out.call (by repeat' (first | exact Below.refl _ _ | refine below_alloc ?_ _)) hb)
          clear hb 
          go_wp2_with fail
          refine (num_any 0 _).mono ?_
          rintro e w' ⟨rfl, rfl⟩
          go_wp2_with fail
          refine (same_n (l := la) (HS.out.get 2 rfl (by repeat' (first | exact Below.refl _ _ | refine below_alloc ?_ _))) (HS.out.get 3 rfl (by repeat' (first | exact Below.refl _ _ | refine below_alloc ?_ _))) rfl (by have := Ja.out; omega)).mono ?_
          rintro e w4 ⟨rfl, hb⟩
          replace HS := Lib.hid (HS.out.call (by repeat' (first | exact Below.refl _ _ | refine below_alloc ?_ _)) hb)
          clear hb 
          go_wp2_with fail
          refine (same_n (l := lb) (eb ▸ Num.nil _) (HS.out.get 4 rfl (by repeat' (first | exact Below.refl _ _ | refine below_alloc ?_ _))) rfl (by have := Jb.out; omega)).mono ?_
          rintro e w5 ⟨rfl, hb⟩
          replace HS := Lib.hid (HS.out.call (by repeat' (first | exact Below.refl _ _ | refine below_alloc ?_ _)) hb)
          clear hb 
          go_wp2_with fail
          refine (known_any _ (hT.below HS.out.1)).mono ?_
          rintro e w6 ⟨rfl, hb⟩
          replace HS := Lib.hid (HS.out.call (by repeat' (first | exact Below.refl _ _ | refine below_alloc ?_ _)) hb)
          clear hb 
          go_wp2_with fail
          go_ret
          exact ⟨rfl, HS.out.1⟩
        · skip
          go_wp2_with (first | (at_builtin; refine wpList_append_own _ rfl _ _ 22 rfl w.heap.size 36 i0 (.int .u64 0) 1 8 Tryd.underlying22 hi hz0 hz1 hz2 rfl (by decide) _ 0 [] rfl (World.ownsRow_nil _ _ _ _) ⟨ba, oa, none⟩ na ca (la.map limbV) rfl (by rw [List.length_map, Nat.mul_one]; exact Ia.out.1.symm) (num_cells (HS.out.get 0 rfl (Below.refl _ _))) limb_one (by have := Ia.out.1; have := Ja.out; unfold maxLen; omega) (by have := Ia.out.1; have := Ja.out; omega) HS.out.1.size ?_; intro v' w' hown hgrow _; obtain ⟨a_x, n_x, c_x, rfl, h0⟩ := app_num Ia.out.1 Ia.out.2 hown; replace HS := Lib.hid (HS.out.num (Below.refl _ _) (grown_none hgrow) h0); clear h0 hown hgrow))
          have eb : lb = [] := List.eq_nil_of_length_eq_zero Ib.out.1.symm
          refine (add_n (l := la) (k := lb) _ (HS.out.get 0 rfl (by repeat' (first | exact Below.refl _ _ | refine below_alloc ?_ _))) (eb ▸ Num.nil _) rfl (by have ja := Ja.out; have jb := Jb.out; omega)).mono ?_
          rintro e w1 ⟨a_s, n_s, c_s, rfl, h0, hb⟩
          have L_s := Lib.hid h0.1
          replace HS := Lib.hid (HS.out.num (by repeat' (first | exact Below.refl _ _ | refine below_alloc ?_ _)) hb h0)
          clear hb h0
          go_wp2_with fail
          refine (radd_n _ (HS.out.get 2 rfl (by repeat' (first | exact Below.refl _ _ | refine below_alloc ?_ _))) (HS.out.get 3 rfl (by repeat' (first | exact Below.refl _ _ | refine below_alloc ?_ _))) rfl (by have ja := Ja.out; have jb := Jb.out; omega)).mono ?_
          rintro e w2 ⟨a_t, n_t, c_t, rfl, h0, hb⟩
          have L_t := Lib.hid h0.1
          replace HS := Lib.hid (HS.out.num (by repeat' (first | exact Below.refl _ _ | refine below_alloc ?_ _)) hb h0)
          clear hb h0
          go_wp2_with fail
          refine (same_n (HS.out.get 1 rfl (by repeat' (first | exact Below.refl _ _ | refine below_alloc ?_ _))) (HS.out.get 0 rfl (by repeat' (first | exact Below.refl _ _ | refine below_alloc ?_ _))) rfl (by have := K1.out; omega)).mono ?_
          rintro e w3 ⟨rfl, hb⟩
          replace HS := Lib.hid (HS.out.call (by repeat' (first | exact Below.refl _ _ | refine below_alloc ?_ _)) hb)
          clear hb 
          go_wp2_with fail
          refine (num_any 0 _).mono ?_
          rintro e w' ⟨rfl, rfl⟩
          go_wp2_with fail
          refine (same_n (l := la) (HS.out.get 2 rfl (by repeat' (first | exact Below.refl _ _ | refine below_alloc ?_ _))) (HS.out.get 3 rfl (by repeat' (first | exact Below.refl _ _ | refine below_alloc ?_ _))) rfl (by have := Ja.out; omega)).mono ?_
          rintro e w4 ⟨rfl, hb⟩
          replace HS := Lib.hid (HS.out.call (by repeat' (first | exact Below.refl _ _ | refine below_alloc ?_ _)) hb)
          clear hb 
          go_wp2_with fail
          refine (same_n (l := lb) (eb ▸ Num.nil _) (HS.out.get 4 rfl (by repeat' (first | exact Below.refl _ _ | refine below_alloc ?_ _))) rfl (by have := Jb.out; omega)).mono ?_
          rintro e w5 ⟨rfl, hb⟩
          replace HS := Lib.hid (HS.out.call (by repeat' (first | exact Below.refl _ _ | refine below_alloc ?_ _)) hb)
          clear hb 
          go_wp2_with fail
          refine (known_any _ (hT.below HS.out.1)).mono ?_
          rintro e w6 ⟨rfl, hb⟩
          replace HS := Lib.hid (HS.out.call (by repeat' (first | exact Below.refl _ _ | refine below_alloc ?_ _)) hb)
          clear hb 
          go_wp2_with fail
          go_ret
          exact ⟨rfl, HS.out.1⟩
        · skip
          go_wp2_with (first | (at_builtin; refine wpList_append_own _ rfl _ _ 22 rfl w.heap.size 36 i0 (.int .u64 0) 1 8 Tryd.underlying22 hi hz0 hz1 hz2 rfl (by decide) _ 0 [] rfl (World.ownsRow_nil _ _ _ _) ⟨ba, oa, none⟩ na ca (la.map limbV) rfl (by rw [List.length_map, Nat.mul_one]; exact Ia.out.1.symm) (num_cells (HS.out.get 0 rfl (Below.refl _ _))) limb_one (by have := Ia.out.1; have := Ja.out; unfold maxLen; omega) (by have := Ia.out.1; have := Ja.out; omega) HS.out.1.size ?_; intro v' w' hown hgrow _; obtain ⟨a_x, n_x, c_x, rfl, h0⟩ := app_num Ia.out.1 Ia.out.2 hown; replace HS := Lib.hid (HS.out.num (Below.refl _ _) (grown_none hgrow) h0); clear h0 hown hgrow) | (at_builtin; refine wpList_append_own _ rfl _ _ 22 rfl w.heap.size 36 i0 (.int .u64 0) 1 8 Tryd.underlying22 hi hz0 hz1 hz2 rfl (by decide) _ 0 [] rfl (World.ownsRow_nil _ _ _ _) ⟨bb, ob, none⟩ nb cb (lb.map limbV) rfl (by rw [List.length_map, Nat.mul_one]; exact Ib.out.1.symm) (num_cells (HS.out.get 2 rfl (Below.refl _ _))) limb_one (by have := Ib.out.1; have := Jb.out; unfold maxLen; omega) (by have := Ib.out.1; have := Jb.out; omega) HS.out.1.size ?_; intro v' w' hown hgrow _; obtain ⟨a_y, n_y, c_y, rfl, h0⟩ := app_num Ib.out.1 Ib.out.2 hown; replace HS := Lib.hid (HS.out.num (Below.refl _ _) (grown_none hgrow) h0); clear h0 hown hgrow))
          refine (add_n (l := la) (k := lb) _ (HS.out.get 1 rfl (by repeat' (first | exact Below.refl _ _ | refine below_alloc ?_ _))) (HS.out.get 0 rfl (by repeat' (first | exact Below.refl _ _ | refine below_alloc ?_ _))) rfl (by have ja := Ja.out; have jb := Jb.out; omega)).mono ?_
          rintro e w1 ⟨a_s, n_s, c_s, rfl, h0, hb⟩
          have L_s := Lib.hid h0.1
          replace HS := Lib.hid (HS.out.num (by repeat' (first | exact Below.refl _ _ | refine below_alloc ?_ _)) hb h0)
          clear hb h0
          go_wp2_with fail
          refine (radd_n _ (HS.out.get 3 rfl (by repeat' (first | exact Below.refl _ _ | refine below_alloc ?_ _))) (HS.out.get 4 rfl (by repeat' (first | exact Below.refl _ _ | refine below_alloc ?_ _))) rfl (by have ja := Ja.out; have jb := Jb.out; omega)).mono ?_
          rintro e w2 ⟨a_t, n_t, c_t, rfl, h0, hb⟩
          have L_t := Lib.hid h0.1
          replace HS := Lib.hid (HS.out.num (by repeat' (first | exact Below.refl _ _ | refine below_alloc ?_ _)) hb h0)
          clear hb h0
          go_wp2_with fail
          refine (same_n (HS.out.get 1 rfl (by repeat' (first | exact Below.refl _ _ | refine below_alloc ?_ _))) (HS.out.get 0 rfl (by repeat' (first | exact Below.refl _ _ | refine below_alloc ?_ _))) rfl (by have := K1.out; omega)).mono ?_
          rintro e w3 ⟨rfl, hb⟩
          replace HS := Lib.hid (HS.out.call (by repeat' (first | exact Below.refl _ _ | refine below_alloc ?_ _)) hb)
          clear hb 
          go_wp2_with fail
          refine (num_any 0 _).mono ?_
          rintro e w' ⟨rfl, rfl⟩
          go_wp2_with fail
          refine (same_n (l := la) (HS.out.get 3 rfl (by repeat' (first | exact Below.refl _ _ | refine below_alloc ?_ _))) (HS.out.get 4 rfl (by repeat' (first | exact Below.refl _ _ | refine below_alloc ?_ _))) rfl (by have := Ja.out; omega)).mono ?_
          rintro e w4 ⟨rfl, hb⟩
          replace HS := Lib.hid (HS.out.call (by repeat' (first | exact Below.refl _ _ | refine below_alloc ?_ _)) hb)
          clear hb 
          go_wp2_with fail
          refine (same_n (l := lb) (HS.out.get 2 rfl (by repeat' (first | exact Below.refl _ _ | refine below_alloc ?_ _))) (HS.out.get 5 rfl (by repeat' (first | exact Below.refl _ _ | refine below_alloc ?_ _))) rfl (by have := Jb.out; omega)).mono ?_
          rintro e w5 ⟨rfl, hb⟩
          replace HS := Lib.hid (HS.out.call (by repeat' (first | exact Below.refl _ _ | refine below_alloc ?_ _)) hb)
          clear hb 
          go_wp2_with fail
          refine (known_any _ (hT.below HS.out.1)).mono ?_
          rintro e w6 ⟨rfl, hb⟩
          replace HS := Lib.hid (HS.out.call (by repeat' (first | exact Below.refl _ _ | refine below_alloc ?_ _)) hb)
          clear hb 
          go_wp2_with fail
          go_ret
          exact ⟨rfl, HS.out.1⟩
end Go.Proofs.YtjfjkabmpiebpaaDoor
