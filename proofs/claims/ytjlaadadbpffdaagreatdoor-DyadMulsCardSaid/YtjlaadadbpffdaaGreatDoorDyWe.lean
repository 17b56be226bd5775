/-
  Layer 3's laws, walked: DyadMuls (printed by dyadlaws2.py).
-/
import Derived.Test.YtjlaadadbpffdaaGreatDoorDyQ
import Derived.Test.YtjlaadadbpffdaaGreatDoorDyWg
set_option linter.unusedSimpArgs false
set_option linter.unusedVariables false
namespace Go.Plumb
theorem mulO_len (x y : Dy) : (limbs (mulO x y).1.m).length ≤ (limbs x.m).length + (limbs y.m).length := by
  unfold mulO
  split
  · refine Nat.le_trans (doneO_len _) ?_
    have h := len_mul (limbs_limbs (nrm x).m) (limbs_limbs (nrm y).m)
    rw [valL_limbs, valL_limbs] at h
    have h1 := nrm_len' x
    have h2 := nrm_len' y
    show (limbs ((nrm x).m * (nrm y).m)).length ≤ _
    omega
  · exact zeroD_len _
end Go.Plumb
namespace Go.Proofs.YtjlaadadbpffdaaGreatDoor
open Go.RowKit Go.Plumb

set_option maxRecDepth 100000 in
set_option maxHeartbeats 4000000 in
theorem w_DyadMuls (w : World) (hT : Tab w) (hQ : PowT Tryz.prog w) (sa : Bool) (a : Option Addr) (na ca : Nat) (la : List Nat) (ea : Int) (Ha : Num w a na ca la) (ha0 : -9223372036854775808 ≤ ea) (ha1 : ea ≤ 9223372036854775807) (sb : Bool) (b : Option Addr) (nb cb : Nat) (lb : List Nat) (eb : Int) (Hb : Num w b nb cb lb) (hb0 : -9223372036854775808 ≤ eb) (hb1 : eb ≤ 9223372036854775807) :
    Calls Tryz.prog 9 #[.agg #[.bool sa, .slice a na ca, .int .i64 ea], .agg #[.bool sb, .slice b nb cb, .int .i64 eb]] w fun e w' => e = .returned (.bool true) ∧ Below w.heap.size w w' := by
  have HS : Hid (At w w [(a, na, ca, la), (b, nb, cb, lb)]) := Lib.hid ⟨Below.refl _ _, Ha, Hb, trivial⟩
  have Ia : Hid (na = la.length ∧ Limbs la ∧ na ≤ 9223372036854775807) := Lib.hid ⟨Ha.1, Ha.limbs, by have h1 := Ha.1; have h2 := Ha.2.1; have h3 := Ha.2.2.1; unfold maxLen at h3; omega⟩
  have Ib : Hid (nb = lb.length ∧ Limbs lb ∧ nb ≤ 9223372036854775807) := Lib.hid ⟨Hb.1, Hb.limbs, by have h1 := Hb.1; have h2 := Hb.2.1; have h3 := Hb.2.2.1; unfold maxLen at h3; omega⟩
  clear Ha Hb
  have Xa := (Boxed3.new w sa a na ca ea 24 (g := w.heap.size) (by simp)).alloc (.cells #[.bool sb, .slice b nb cb, .int .i64 eb] 24)
  have Xb := Boxed3.new (w.alloc (.cells #[.bool sa, .slice a na ca, .int .i64 ea] 24)) sb b nb cb eb 24 (g := w.heap.size + 1) (by simp)
  have hlg : Hid (na ≤ 9223372036854775807 ∧ nb ≤ 9223372036854775807) := Lib.hid ⟨Ia.out.2.2, Ib.out.2.2⟩
  by_cases hc : (40 : Int) < (na : Int)
  · have hd := decide_eq_true hc
    clear hc
    go_enter Tryz.func9, Tryz.ntmps9
    go_wp2_with fail
    refine (llong_any sa ea hlg.out.1).mono ?_
    rintro e w1 ⟨rfl, hb⟩
    have B_a := Lib.hid (Xa.below hb)
    have B_b := Lib.hid (Xb.below hb)
    replace HS := Lib.hid (HS.out.call (by repeat' (first | exact Below.refl _ _ | refine below_alloc ?_ _)) hb)
    clear hb Xa Xb
    rw [hd]
    go_wp2_with fail
    refine (known3_any _ (hT.below (below_step HS.out.1 (by repeat' (first | exact Below.refl _ _ | refine below_alloc ?_ _)))) (PowT_below hQ (below_step HS.out.1 (by repeat' (first | exact Below.refl _ _ | refine below_alloc ?_ _))))).mono ?_
    rintro e w2 ⟨rfl, hb⟩
    replace B_a := Lib.hid (B_a.out.later (by repeat' (first | exact Below.refl _ _ | refine below_alloc ?_ _)) hb)
    replace B_b := Lib.hid (B_b.out.later (by repeat' (first | exact Below.refl _ _ | refine below_alloc ?_ _)) hb)
    replace HS := Lib.hid (HS.out.call (by repeat' (first | exact Below.refl _ _ | refine below_alloc ?_ _)) hb)
    clear hb
    go_wp2_with fail
    go_ret
    exact ⟨rfl, HS.out.1⟩
  · have hd := decide_eq_false hc
    by_cases hc' : (40 : Int) < (nb : Int)
    · have hd' := decide_eq_true hc'
      clear hc hc'
      go_enter Tryz.func9, Tryz.ntmps9
      go_wp2_with fail
      refine (llong_any sa ea hlg.out.1).mono ?_
      rintro e w1 ⟨rfl, hb⟩
      have B_a := Lib.hid (Xa.below hb)
      have B_b := Lib.hid (Xb.below hb)
      replace HS := Lib.hid (HS.out.call (by repeat' (first | exact Below.refl _ _ | refine below_alloc ?_ _)) hb)
      clear hb Xa Xb
      rw [hd]
      obtain ⟨b0, b1, b2, _, _, _⟩ := id (B_b.out)
      go_wp2_with fail
      refine (llong_any sb eb hlg.out.2).mono ?_
      rintro e w2 ⟨rfl, hb⟩
      replace B_a := Lib.hid (B_a.out.later (by repeat' (first | exact Below.refl _ _ | refine below_alloc ?_ _)) hb)
      replace B_b := Lib.hid (B_b.out.later (by repeat' (first | exact Below.refl _ _ | refine below_alloc ?_ _)) hb)
      clear b0 b1 b2
      replace HS := Lib.hid (HS.out.call (by repeat' (first | exact Below.refl _ _ | refine below_alloc ?_ _)) hb)
      clear hb
      rw [hd']
      go_wp2_with fail
      refine (known3_any _ (hT.below (below_step HS.out.1 (by repeat' (first | exact Below.refl _ _ | refine below_alloc ?_ _)))) (PowT_below hQ (below_step HS.out.1 (by repeat' (first | exact Below.refl _ _ | refine below_alloc ?_ _))))).mono ?_
      rintro e w3 ⟨rfl, hb⟩
      replace B_a := Lib.hid (B_a.out.later (by repeat' (first | exact Below.refl _ _ | refine below_alloc ?_ _)) hb)
      replace B_b := Lib.hid (B_b.out.later (by repeat' (first | exact Below.refl _ _ | refine below_alloc ?_ _)) hb)
      replace HS := Lib.hid (HS.out.call (by repeat' (first | exact Below.refl _ _ | refine below_alloc ?_ _)) hb)
      clear hb
      go_wp2_with fail
      go_ret
      exact ⟨rfl, HS.out.1⟩
    · have hd' := decide_eq_false hc'
      have hla : la.length ≤ 40 := by have := Ia.out.1; omega
      have hlb : lb.length ≤ 40 := by have := Ib.out.1; omega
      have hla' : (limbs (valL la)).length ≤ 40 := Nat.le_trans (len_of Ia.out.2.1) hla
      have hlb' : (limbs (valL lb)).length ≤ 40 := Nat.le_trans (len_of Ib.out.2.1) hlb
      obtain ⟨R, r, hO⟩ : ∃ R r, mulO ⟨sa, valL la, ea⟩ ⟨sb, valL lb, eb⟩ = (R, r) := ⟨_, _, rfl⟩
      have hR : (limbs R.m).length ≤ 10000 := by
        have := mulO_len ⟨sa, valL la, ea⟩ ⟨sb, valL lb, eb⟩
        rw [hO] at this
        exact Nat.le_trans this (Nat.le_trans (Nat.add_le_add hla' hlb') (by decide))
      have HO := Lib.hid (And.intro hO (And.intro hR (show la.length + lb.length ≤ 80 by omega)))
      clear hc hc' hla hlb hla' hlb' hO hR
      go_enter Tryz.func9, Tryz.ntmps9
      go_wp2_with fail
      refine (llong_any sa ea hlg.out.1).mono ?_
      rintro e w1 ⟨rfl, hb⟩
      have B_a := Lib.hid (Xa.below hb)
      have B_b := Lib.hid (Xb.below hb)
      replace HS := Lib.hid (HS.out.call (by repeat' (first | exact Below.refl _ _ | refine below_alloc ?_ _)) hb)
      clear hb Xa Xb
      rw [hd]
      obtain ⟨b0, b1, b2, _, _, _⟩ := id (B_b.out)
      go_wp2_with fail
      refine (llong_any sb eb hlg.out.2).mono ?_
      rintro e w2 ⟨rfl, hb⟩
      replace B_a := Lib.hid (B_a.out.later (by repeat' (first | exact Below.refl _ _ | refine below_alloc ?_ _)) hb)
      replace B_b := Lib.hid (B_b.out.later (by repeat' (first | exact Below.refl _ _ | refine below_alloc ?_ _)) hb)
      clear b0 b1 b2
      replace HS := Lib.hid (HS.out.call (by repeat' (first | exact Below.refl _ _ | refine below_alloc ?_ _)) hb)
      clear hb
      rw [hd']
      obtain ⟨a0, a1, a2, _, _, _⟩ := id (B_a.out)
      obtain ⟨b0, b1, b2, _, _, _⟩ := id (B_b.out)
      go_wp2_with fail
      refine (dMul_any sa sb ea eb R r (hT.below (below_step HS.out.1 (by repeat' (first | exact Below.refl _ _ | refine below_alloc ?_ _)))) (HS.out.get 0 rfl (by repeat' (first | exact Below.refl _ _ | refine below_alloc ?_ _))) (HS.out.get 1 rfl (by repeat' (first | exact Below.refl _ _ | refine below_alloc ?_ _))) (Nat.le_trans HO.out.2.2 (by decide)) HO.out.1).mono ?_
      rintro e w3 ⟨a_p, n_p, c_p, rfl, h0, hb⟩
      replace B_a := Lib.hid (B_a.out.later (by repeat' (first | exact Below.refl _ _ | refine below_alloc ?_ _)) hb)
      replace B_b := Lib.hid (B_b.out.later (by repeat' (first | exact Below.refl _ _ | refine below_alloc ?_ _)) hb)
      clear a0 a1 a2 b0 b1 b2
      replace HS := Lib.hid (HS.out.num (by repeat' (first | exact Below.refl _ _ | refine below_alloc ?_ _)) hb h0)
      have L_p := Lib.hid h0.1
      clear hb h0
      obtain ⟨a0, a1, a2, _, _, _⟩ := id ((B_a.out).alloc (.cells #[.bool (R.s), .slice a_p n_p c_p, .int .i64 (R.e)] 24))
      obtain ⟨b0, b1, b2, _, _, _⟩ := id ((B_b.out).alloc (.cells #[.bool (R.s), .slice a_p n_p c_p, .int .i64 (R.e)] 24))
      go_wp2_with fail
      refine (rMul3_any sa sb ea eb R r (HS.out.get 1 rfl (by repeat' (first | exact Below.refl _ _ | refine below_alloc ?_ _))) (HS.out.get 2 rfl (by repeat' (first | exact Below.refl _ _ | refine below_alloc ?_ _))) (Nat.le_trans HO.out.2.2 (by decide)) HO.out.1).mono ?_
      rintro e w4 ⟨a_x, n_x, c_x, rfl, h0, hb⟩
      replace B_a := Lib.hid (B_a.out.later (by repeat' (first | exact Below.refl _ _ | refine below_alloc ?_ _)) hb)
      replace B_b := Lib.hid (B_b.out.later (by repeat' (first | exact Below.refl _ _ | refine below_alloc ?_ _)) hb)
      have B_p := Lib.hid (Boxed3.later (Boxed3.new w3 (R.s) a_p n_p c_p (R.e) 24 (g := w3.heap.size) (by simp)) (by repeat' (first | exact Below.refl _ _ | refine below_alloc ?_ _)) hb)
      clear a0 a1 a2 b0 b1 b2
      replace HS := Lib.hid (HS.out.num (by repeat' (first | exact Below.refl _ _ | refine below_alloc ?_ _)) hb h0)
      have L_x := Lib.hid h0.1
      clear hb h0
      obtain ⟨p0, p1, p2, _, _, _⟩ := id ((B_p.out).alloc (.cells #[.bool (R.s), .slice a_x n_x c_x, .int .i64 (R.e)] 24))
      go_wp2_with fail
      refine (rsame3_any R.s R.e (HS.out.get 1 rfl (by repeat' (first | exact Below.refl _ _ | refine below_alloc ?_ _))) (HS.out.get 0 rfl (by repeat' (first | exact Below.refl _ _ | refine below_alloc ?_ _))) rfl HO.out.2.1).mono ?_
      rintro e w5 ⟨rfl, hb⟩
      replace B_a := Lib.hid (B_a.out.later (by repeat' (first | exact Below.refl _ _ | refine below_alloc ?_ _)) hb)
      replace B_b := Lib.hid (B_b.out.later (by repeat' (first | exact Below.refl _ _ | refine below_alloc ?_ _)) hb)
      replace B_p := Lib.hid (B_p.out.later (by repeat' (first | exact Below.refl _ _ | refine below_alloc ?_ _)) hb)
      have B_x := Lib.hid (Boxed3.later (Boxed3.new w4 (R.s) a_x n_x c_x (R.e) 24 (g := w4.heap.size) (by simp)) (by repeat' (first | exact Below.refl _ _ | refine below_alloc ?_ _)) hb)
      clear p0 p1 p2
      replace HS := Lib.hid (HS.out.call (by repeat' (first | exact Below.refl _ _ | refine below_alloc ?_ _)) hb)
      clear hb
      go_wp2_with fail
      refine (num3_any r _).mono ?_
      rintro e w' ⟨rfl, rfl⟩
      go_wp2_with fail
      refine (known3_any _ (hT.below (below_step HS.out.1 (by repeat' (first | exact Below.refl _ _ | refine below_alloc ?_ _)))) (PowT_below hQ (below_step HS.out.1 (by repeat' (first | exact Below.refl _ _ | refine below_alloc ?_ _))))).mono ?_
      rintro e w6 ⟨rfl, hb⟩
      replace B_a := Lib.hid (B_a.out.later (by repeat' (first | exact Below.refl _ _ | refine below_alloc ?_ _)) hb)
      replace B_b := Lib.hid (B_b.out.later (by repeat' (first | exact Below.refl _ _ | refine below_alloc ?_ _)) hb)
      replace B_p := Lib.hid (B_p.out.later (by repeat' (first | exact Below.refl _ _ | refine below_alloc ?_ _)) hb)
      replace B_x := Lib.hid (B_x.out.later (by repeat' (first | exact Below.refl _ _ | refine below_alloc ?_ _)) hb)
      replace HS := Lib.hid (HS.out.call (by repeat' (first | exact Below.refl _ _ | refine below_alloc ?_ _)) hb)
      clear hb
      go_wp2_with fail
      go_ret
      exact ⟨rfl, HS.out.1⟩
end Go.Proofs.YtjlaadadbpffdaaGreatDoor
