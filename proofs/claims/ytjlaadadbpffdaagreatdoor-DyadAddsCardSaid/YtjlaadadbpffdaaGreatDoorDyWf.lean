/-
  Layer 3's laws, walked: DyadAdds, DyadSubs (printed by dyadlaws2.py).
-/
import Derived.Test.YtjlaadadbpffdaaGreatDoorDyV
import Derived.Test.YtjlaadadbpffdaaGreatDoorDyWg
set_option linter.unusedSimpArgs false
set_option linter.unusedVariables false
namespace Go.Plumb
theorem zerosN_len40 {l : List Nat} (h : Limbs l) (hl : l.length ≤ 40) : zerosN (valL l) ≤ 2560 := by
  by_cases h0 : valL l = 0
  · rw [h0, zerosN_zero]; omega
  · have h1 := oddN_mul (valL l)
    have h2 := valL_lt h
    have h3 := oddN_ne h0
    apply Nat.le_of_not_lt
    intro hlt
    have h4 : 2 ^ (64 * l.length) ≤ 2 ^ zerosN (valL l) := Nat.pow_le_pow_right (by decide) (by omega)
    have h5 : 1 * 2 ^ zerosN (valL l) ≤ oddN (valL l) * 2 ^ zerosN (valL l) := Nat.mul_le_mul_right _ (by omega)
    rw [powB64] at h2
    omega
theorem near_of_apart {s s' : Bool} {e e' : Int} {l k : List Nat} (h1 : Limbs l) (h2 : Limbs k) (hl : l.length ≤ 40) (hk : k.length ≤ 40) (ha : ¬ apartP e e') :
    farD (nrm ⟨s, valL l, e⟩) (nrm ⟨s', valL k, e'⟩) ∨ nearD (nrm ⟨s, valL l, e⟩) (nrm ⟨s', valL k, e'⟩) := by
  have z1 := zerosN_len40 h1 hl
  have z2 := zerosN_len40 h2 hk
  by_cases h0 : valL l = 0
  · exact .inr (.inl ((nrm_m_zero _).2 h0))
  by_cases h0' : valL k = 0
  · exact .inr (.inr (.inl ((nrm_m_zero _).2 h0')))
  have e1 := nrm_e (d := ⟨s, valL l, e⟩) h0
  have e2 := nrm_e (d := ⟨s', valL k, e'⟩) h0'
  simp only at e1 e2
  unfold apartP at ha
  by_cases hf : 262144 < max (nrm ⟨s, valL l, e⟩).e (nrm ⟨s', valL k, e'⟩).e - min (nrm ⟨s, valL l, e⟩).e (nrm ⟨s', valL k, e'⟩).e
  · exact .inl ⟨fun h => h0 ((nrm_m_zero _).1 h), fun h => h0' ((nrm_m_zero _).1 h), hf⟩
  · refine .inr (.inr (.inr ?_))
    rw [e1, e2] at hf ⊢
    omega
theorem atE_len (x y : Dy) {k : Nat} (hx : (limbs x.m).length ≤ k) (hn : nearD x y) : (limbs (atE x (lowE x y))).length ≤ k + 188 ∧ (limbs (atE x (lowE y x))).length ≤ k + 188 := by
  by_cases h0 : x.m = 0
  · unfold atE; rw [h0, Nat.zero_mul, Nat.zero_mul, limbs_zero]; simp
  · have hb : (x.e - lowE x y).toNat ≤ 12000 ∧ (x.e - lowE y x).toNat ≤ 12000 := by
      unfold lowE
      rw [if_neg h0, if_neg h0]
      rcases hn with h | h | h
      · exact absurd h h0
      · rw [if_pos h, if_pos h]; omega
      · split <;> omega
    exact ⟨pow_len rfl hx hb.1, pow_len rfl hx hb.2⟩
theorem nearD_symm {x y : Dy} (h : nearD x y) : nearD y x := by
  rcases h with h | h | h
  · exact .inr (.inl h)
  · exact .inl h
  · exact .inr (.inr ⟨h.2, h.1⟩)
theorem addD_m_le (x y : Dy) : (addD x y).m ≤ atE x (lowE x y) + atE y (lowE x y) := by
  unfold addD
  split
  · exact Nat.le_refl _
  · split
    · show _ - _ ≤ _; omega
    · show _ - _ ≤ _; omega
theorem addO_len {x y : Dy} (hx : (limbs x.m).length ≤ 40) (hy : (limbs y.m).length ≤ 40) (hn : farD (nrm x) (nrm y) ∨ nearD (nrm x) (nrm y)) : (limbs (addO x y).1.m).length ≤ 10000 := by
  unfold addO
  split
  · split
    · exact zeroD_len _
    · rename_i hf
      have hn := hn.resolve_left hf
      refine Nat.le_trans (doneO_len _) (Nat.le_trans (length_mono (addD_m_le _ _)) ?_)
      have a1 := (atE_len (nrm x) (nrm y) (Nat.le_trans (nrm_len' x) hx) hn).1
      have a2 := (atE_len (nrm y) (nrm x) (Nat.le_trans (nrm_len' y) hy) (nearD_symm hn)).2
      have h := len_add (limbs_limbs (atE (nrm x) (lowE (nrm x) (nrm y)))) (limbs_limbs (atE (nrm y) (lowE (nrm x) (nrm y))))
      rw [valL_limbs, valL_limbs] at h
      omega
  · exact zeroD_len _
end Go.Plumb
namespace Go.Proofs.YtjlaadadbpffdaaGreatDoor
open Go.RowKit Go.Plumb

set_option maxRecDepth 100000 in
set_option maxHeartbeats 4000000 in
theorem w_DyadAdds (w : World) (hT : Tab w) (hQ : PowT Tryz.prog w) (sa : Bool) (a : Option Addr) (na ca : Nat) (la : List Nat) (ea : Int) (Ha : Num w a na ca la) (ha0 : -9223372036854775808 ≤ ea) (ha1 : ea ≤ 9223372036854775807) (sb : Bool) (b : Option Addr) (nb cb : Nat) (lb : List Nat) (eb : Int) (Hb : Num w b nb cb lb) (hb0 : -9223372036854775808 ≤ eb) (hb1 : eb ≤ 9223372036854775807) :
    Calls Tryz.prog 7 #[.agg #[.bool sa, .slice a na ca, .int .i64 ea], .agg #[.bool sb, .slice b nb cb, .int .i64 eb]] w fun e w' => e = .returned (.bool true) ∧ Below w.heap.size w w' := by
  have HS : Hid (At w w [(a, na, ca, la), (b, nb, cb, lb)]) := Lib.hid ⟨Below.refl _ _, Ha, Hb, trivial⟩
  have Ia : Hid (na = la.length ∧ Limbs la ∧ na ≤ 9223372036854775807) := Lib.hid ⟨Ha.1, Ha.limbs, by have h1 := Ha.1; have h2 := Ha.2.1; have h3 := Ha.2.2.1; unfold maxLen at h3; omega⟩
  have Ib : Hid (nb = lb.length ∧ Limbs lb ∧ nb ≤ 9223372036854775807) := Lib.hid ⟨Hb.1, Hb.limbs, by have h1 := Hb.1; have h2 := Hb.2.1; have h3 := Hb.2.2.1; unfold maxLen at h3; omega⟩
  clear Ha Hb
  have Xa := (Boxed3.new w sa a na ca ea 24 (g := w.heap.size) (by simp)).alloc (.cells #[.bool sb, .slice b nb cb, .int .i64 eb] 24)
  have Xb := Boxed3.new (w.alloc (.cells #[.bool sa, .slice a na ca, .int .i64 ea] 24)) sb b nb cb eb 24 (g := w.heap.size + 1) (by simp)
  have hlg : Hid (na ≤ 9223372036854775807 ∧ nb ≤ 9223372036854775807) := Lib.hid ⟨Ia.out.2.2, Ib.out.2.2⟩
  by_cases hc : (40 : Int) < (na : Int)
  · have hd := decide_eq_true hc
    clear hc
    go_enter Tryz.func7, Tryz.ntmps7
    go_wp2_with fail
    refine (llong_any sa ea hlg.out.1).mono ?_
    rintro e w1 ⟨rfl, hb⟩
    have B_a := Lib.hid (Xa.below hb)
    have B_b := Lib.hid (Xb.below hb)
    replace HS := Lib.hid (HS.out.call (by repeat' (first | exact Below.refl _ _ | refine below_alloc ?_ _)) hb)
    clear hb Xa Xb
    rw [hd]
    go_wp2_with fail
    refine (known3_any _ (hT.below (below_step HS.out.1 (by repeat' (first | exact Below.refl _ _ | refine below_alloc ?_ _)))) (PowT_below hQ (below_step HS.out.1 (by repeat' (first | exact Below.refl _ _ | refine below_alloc ?_ _))))).mono ?_
    rintro e w2 ⟨rfl, hb⟩
    replace B_a := Lib.hid (B_a.out.later (by repeat' (first | exact Below.refl _ _ | refine below_alloc ?_ _)) hb)
    replace B_b := Lib.hid (B_b.out.later (by repeat' (first | exact Below.refl _ _ | refine below_alloc ?_ _)) hb)
    replace HS := Lib.hid (HS.out.call (by repeat' (first | exact Below.refl _ _ | refine below_alloc ?_ _)) hb)
    clear hb
    go_wp2_with fail
    go_ret
    exact ⟨rfl, HS.out.1⟩
  · have hd := decide_eq_false hc
    by_cases hc' : (40 : Int) < (nb : Int)
    · have hd' := decide_eq_true hc'
      clear hc hc'
      go_enter Tryz.func7, Tryz.ntmps7
      go_wp2_with fail
      refine (llong_any sa ea hlg.out.1).mono ?_
      rintro e w1 ⟨rfl, hb⟩
      have B_a := Lib.hid (Xa.below hb)
      have B_b := Lib.hid (Xb.below hb)
      replace HS := Lib.hid (HS.out.call (by repeat' (first | exact Below.refl _ _ | refine below_alloc ?_ _)) hb)
      clear hb Xa Xb
      rw [hd]
      obtain ⟨b0, b1, b2, _, _, _⟩ := id (B_b.out)
      go_wp2_with fail
      refine (llong_any sb eb hlg.out.2).mono ?_
      rintro e w2 ⟨rfl, hb⟩
      replace B_a := Lib.hid (B_a.out.later (by repeat' (first | exact Below.refl _ _ | refine below_alloc ?_ _)) hb)
      replace B_b := Lib.hid (B_b.out.later (by repeat' (first | exact Below.refl _ _ | refine below_alloc ?_ _)) hb)
      clear b0 b1 b2
      replace HS := Lib.hid (HS.out.call (by repeat' (first | exact Below.refl _ _ | refine below_alloc ?_ _)) hb)
      clear hb
      rw [hd']
      go_wp2_with fail
      refine (known3_any _ (hT.below (below_step HS.out.1 (by repeat' (first | exact Below.refl _ _ | refine below_alloc ?_ _)))) (PowT_below hQ (below_step HS.out.1 (by repeat' (first | exact Below.refl _ _ | refine below_alloc ?_ _))))).mono ?_
      rintro e w3 ⟨rfl, hb⟩
      replace B_a := Lib.hid (B_a.out.later (by repeat' (first | exact Below.refl _ _ | refine below_alloc ?_ _)) hb)
      replace B_b := Lib.hid (B_b.out.later (by repeat' (first | exact Below.refl _ _ | refine below_alloc ?_ _)) hb)
      replace HS := Lib.hid (HS.out.call (by repeat' (first | exact Below.refl _ _ | refine below_alloc ?_ _)) hb)
      clear hb
      go_wp2_with fail
      go_ret
      exact ⟨rfl, HS.out.1⟩
    · have hd' := decide_eq_false hc'
      have hla : la.length ≤ 40 := by have := Ia.out.1; omega
      have hlb : lb.length ≤ 40 := by have := Ib.out.1; omega
      have hla' : (limbs (valL la)).length ≤ 40 := Nat.le_trans (len_of Ia.out.2.1) hla
      have hlb' : (limbs (valL lb)).length ≤ 40 := Nat.le_trans (len_of Ib.out.2.1) hlb
      have HI : Hid (-9223372036854775808 ≤ ea ∧ ea ≤ 9223372036854775807 ∧ -9223372036854775808 ≤ eb ∧ eb ≤ 9223372036854775807) := Lib.hid ⟨ha0, ha1, hb0, hb1⟩
      clear hc hc'
      by_cases hap : apartP ea eb
      · have ht := decide_eq_true hap
        clear hap hla hlb hla' hlb'
        go_enter Tryz.func7, Tryz.ntmps7
        go_wp2_with fail
        refine (llong_any sa ea hlg.out.1).mono ?_
        rintro e w1 ⟨rfl, hb⟩
        have B_a := Lib.hid (Xa.below hb)
        have B_b := Lib.hid (Xb.below hb)
        replace HS := Lib.hid (HS.out.call (by repeat' (first | exact Below.refl _ _ | refine below_alloc ?_ _)) hb)
        clear hb Xa Xb
        rw [hd]
        obtain ⟨b0, b1, b2, _, _, _⟩ := id (B_b.out)
        go_wp2_with fail
        refine (llong_any sb eb hlg.out.2).mono ?_
        rintro e w2 ⟨rfl, hb⟩
        replace B_a := Lib.hid (B_a.out.later (by repeat' (first | exact Below.refl _ _ | refine below_alloc ?_ _)) hb)
        replace B_b := Lib.hid (B_b.out.later (by repeat' (first | exact Below.refl _ _ | refine below_alloc ?_ _)) hb)
        clear b0 b1 b2
        replace HS := Lib.hid (HS.out.call (by repeat' (first | exact Below.refl _ _ | refine below_alloc ?_ _)) hb)
        clear hb
        rw [hd']
        obtain ⟨a0, a1, a2, _, _, _⟩ := id (B_a.out)
        obtain ⟨b0, b1, b2, _, _, _⟩ := id (B_b.out)
        go_wp2_with fail
        refine (lapart_any sa sb ea eb HI.out.1 HI.out.2.1 HI.out.2.2.1 HI.out.2.2.2).mono ?_
        rintro e w3 ⟨rfl, hb⟩
        replace B_a := Lib.hid (B_a.out.later (by repeat' (first | exact Below.refl _ _ | refine below_alloc ?_ _)) hb)
        replace B_b := Lib.hid (B_b.out.later (by repeat' (first | exact Below.refl _ _ | refine below_alloc ?_ _)) hb)
        clear a0 a1 a2 b0 b1 b2
        replace HS := Lib.hid (HS.out.call (by repeat' (first | exact Below.refl _ _ | refine below_alloc ?_ _)) hb)
        clear hb
        rw [ht]
        go_wp2_with fail
        refine (known3_any _ (hT.below (below_step HS.out.1 (by repeat' (first | exact Below.refl _ _ | refine below_alloc ?_ _)))) (PowT_below hQ (below_step HS.out.1 (by repeat' (first | exact Below.refl _ _ | refine below_alloc ?_ _))))).mono ?_
        rintro e w4 ⟨rfl, hb⟩
        replace B_a := Lib.hid (B_a.out.later (by repeat' (first | exact Below.refl _ _ | refine below_alloc ?_ _)) hb)
        replace B_b := Lib.hid (B_b.out.later (by repeat' (first | exact Below.refl _ _ | refine below_alloc ?_ _)) hb)
        replace HS := Lib.hid (HS.out.call (by repeat' (first | exact Below.refl _ _ | refine below_alloc ?_ _)) hb)
        clear hb
        go_wp2_with fail
        go_ret
        exact ⟨rfl, HS.out.1⟩
      · have ht := decide_eq_false hap
        have hnear := near_of_apart (s := sa) (s' := sb) Ia.out.2.1 Ib.out.2.1 hla hlb hap
        obtain ⟨R, r, hO⟩ : ∃ R r, addO ⟨sa, valL la, ea⟩ ⟨sb, valL lb, eb⟩ = (R, r) := ⟨_, _, rfl⟩
        have hR : (limbs R.m).length ≤ 10000 := by
          have := addO_len (x := ⟨sa, valL la, ea⟩) (y := ⟨sb, valL lb, eb⟩) hla' hlb' hnear
          rw [hO] at this
          exact this
        have HO := Lib.hid (And.intro hO (And.intro hR (And.intro (show la.length + lb.length ≤ 1000 by omega) hnear)))
        clear hap hla hlb hla' hlb' hO hR hnear
        go_enter Tryz.func7, Tryz.ntmps7
        go_wp2_with fail
        refine (llong_any sa ea hlg.out.1).mono ?_
        rintro e w1 ⟨rfl, hb⟩
        have B_a := Lib.hid (Xa.below hb)
        have B_b := Lib.hid (Xb.below hb)
        replace HS := Lib.hid (HS.out.call (by repeat' (first | exact Below.refl _ _ | refine below_alloc ?_ _)) hb)
        clear hb Xa Xb
        rw [hd]
        obtain ⟨b0, b1, b2, _, _, _⟩ := id (B_b.out)
        go_wp2_with fail
        refine (llong_any sb eb hlg.out.2).mono ?_
        rintro e w2 ⟨rfl, hb⟩
        replace B_a := Lib.hid (B_a.out.later (by repeat' (first | exact Below.refl _ _ | refine below_alloc ?_ _)) hb)
        replace B_b := Lib.hid (B_b.out.later (by repeat' (first | exact Below.refl _ _ | refine below_alloc ?_ _)) hb)
        clear b0 b1 b2
        replace HS := Lib.hid (HS.out.call (by repeat' (first | exact Below.refl _ _ | refine below_alloc ?_ _)) hb)
        clear hb
        rw [hd']
        obtain ⟨a0, a1, a2, _, _, _⟩ := id (B_a.out)
        obtain ⟨b0, b1, b2, _, _, _⟩ := id (B_b.out)
        go_wp2_with fail
        refine (lapart_any sa sb ea eb HI.out.1 HI.out.2.1 HI.out.2.2.1 HI.out.2.2.2).mono ?_
        rintro e w3 ⟨rfl, hb⟩
        replace B_a := Lib.hid (B_a.out.later (by repeat' (first | exact Below.refl _ _ | refine below_alloc ?_ _)) hb)
        replace B_b := Lib.hid (B_b.out.later (by repeat' (first | exact Below.refl _ _ | refine below_alloc ?_ _)) hb)
        clear a0 a1 a2 b0 b1 b2
        replace HS := Lib.hid (HS.out.call (by repeat' (first | exact Below.refl _ _ | refine below_alloc ?_ _)) hb)
        clear hb
        rw [ht]
        obtain ⟨a0, a1, a2, _, _, _⟩ := id (B_a.out)
        obtain ⟨b0, b1, b2, _, _, _⟩ := id (B_b.out)
        go_wp2_with fail
        refine (dAdd_any sa sb ea eb R r (hT.below (below_step HS.out.1 (by repeat' (first | exact Below.refl _ _ | refine below_alloc ?_ _)))) (HS.out.get 0 rfl (by repeat' (first | exact Below.refl _ _ | refine below_alloc ?_ _))) (HS.out.get 1 rfl (by repeat' (first | exact Below.refl _ _ | refine below_alloc ?_ _))) HO.out.2.2.1 HO.out.2.2.2 HO.out.1).mono ?_
        rintro e w4 ⟨a_p, n_p, c_p, rfl, h0, hb⟩
        replace B_a := Lib.hid (B_a.out.later (by repeat' (first | exact Below.refl _ _ | refine below_alloc ?_ _)) hb)
        replace B_b := Lib.hid (B_b.out.later (by repeat' (first | exact Below.refl _ _ | refine below_alloc ?_ _)) hb)
        clear a0 a1 a2 b0 b1 b2
        replace HS := Lib.hid (HS.out.num (by repeat' (first | exact Below.refl _ _ | refine below_alloc ?_ _)) hb h0)
        have L_p := Lib.hid h0.1
        clear hb h0
        obtain ⟨a0, a1, a2, _, _, _⟩ := id ((B_a.out).alloc (.cells #[.bool (R.s), .slice a_p n_p c_p, .int .i64 (R.e)] 24))
        obtain ⟨b0, b1, b2, _, _, _⟩ := id ((B_b.out).alloc (.cells #[.bool (R.s), .slice a_p n_p c_p, .int .i64 (R.e)] 24))
        go_wp2_with fail
        refine (rAdd3_any sa sb ea eb R r (HS.out.get 1 rfl (by repeat' (first | exact Below.refl _ _ | refine below_alloc ?_ _))) (HS.out.get 2 rfl (by repeat' (first | exact Below.refl _ _ | refine below_alloc ?_ _))) HO.out.2.2.1 HO.out.2.2.2 HO.out.1).mono ?_
        rintro e w5 ⟨a_x, n_x, c_x, rfl, h0, hb⟩
        replace B_a := Lib.hid (B_a.out.later (by repeat' (first | exact Below.refl _ _ | refine below_alloc ?_ _)) hb)
        replace B_b := Lib.hid (B_b.out.later (by repeat' (first | exact Below.refl _ _ | refine below_alloc ?_ _)) hb)
        have B_p := Lib.hid (Boxed3.later (Boxed3.new w4 (R.s) a_p n_p c_p (R.e) 24 (g := w4.heap.size) (by simp)) (by repeat' (first | exact Below.refl _ _ | refine below_alloc ?_ _)) hb)
        clear a0 a1 a2 b0 b1 b2
        replace HS := Lib.hid (HS.out.num (by repeat' (first | exact Below.refl _ _ | refine below_alloc ?_ _)) hb h0)
        have L_x := Lib.hid h0.1
        clear hb h0
        obtain ⟨p0, p1, p2, _, _, _⟩ := id ((B_p.out).alloc (.cells #[.bool (R.s), .slice a_x n_x c_x, .int .i64 (R.e)] 24))
        go_wp2_with fail
        refine (rsame3_any R.s R.e (HS.out.get 1 rfl (by repeat' (first | exact Below.refl _ _ | refine below_alloc ?_ _))) (HS.out.get 0 rfl (by repeat' (first | exact Below.refl _ _ | refine below_alloc ?_ _))) rfl HO.out.2.1).mono ?_
        rintro e w6 ⟨rfl, hb⟩
        replace B_a := Lib.hid (B_a.out.later (by repeat' (first | exact Below.refl _ _ | refine below_alloc ?_ _)) hb)
        replace B_b := Lib.hid (B_b.out.later (by repeat' (first | exact Below.refl _ _ | refine below_alloc ?_ _)) hb)
        replace B_p := Lib.hid (B_p.out.later (by repeat' (first | exact Below.refl _ _ | refine below_alloc ?_ _)) hb)
        have B_x := Lib.hid (Boxed3.later (Boxed3.new w5 (R.s) a_x n_x c_x (R.e) 24 (g := w5.heap.size) (by simp)) (by repeat' (first | exact Below.refl _ _ | refine below_alloc ?_ _)) hb)
        clear p0 p1 p2
        replace HS := Lib.hid (HS.out.call (by repeat' (first | exact Below.refl _ _ | refine below_alloc ?_ _)) hb)
        clear hb
        go_wp2_with fail
        refine (num3_any r _).mono ?_
        rintro e w' ⟨rfl, rfl⟩
        go_wp2_with fail
        refine (known3_any _ (hT.below (below_step HS.out.1 (by repeat' (first | exact Below.refl _ _ | refine below_alloc ?_ _)))) (PowT_below hQ (below_step HS.out.1 (by repeat' (first | exact Below.refl _ _ | refine below_alloc ?_ _))))).mono ?_
        rintro e w7 ⟨rfl, hb⟩
        replace B_a := Lib.hid (B_a.out.later (by repeat' (first | exact Below.refl _ _ | refine below_alloc ?_ _)) hb)
        replace B_b := Lib.hid (B_b.out.later (by repeat' (first | exact Below.refl _ _ | refine below_alloc ?_ _)) hb)
        replace B_p := Lib.hid (B_p.out.later (by repeat' (first | exact Below.refl _ _ | refine below_alloc ?_ _)) hb)
        replace B_x := Lib.hid (B_x.out.later (by repeat' (first | exact Below.refl _ _ | refine below_alloc ?_ _)) hb)
        replace HS := Lib.hid (HS.out.call (by repeat' (first | exact Below.refl _ _ | refine below_alloc ?_ _)) hb)
        clear hb
        go_wp2_with fail
        go_ret
        exact ⟨rfl, HS.out.1⟩
set_option maxRecDepth 100000 in
set_option maxHeartbeats 4000000 in
theorem w_DyadSubs (w : World) (hT : Tab w) (hQ : PowT Tryz.prog w) (sa : Bool) (a : Option Addr) (na ca : Nat) (la : List Nat) (ea : Int) (Ha : Num w a na ca la) (ha0 : -9223372036854775808 ≤ ea) (ha1 : ea ≤ 9223372036854775807) (sb : Bool) (b : Option Addr) (nb cb : Nat) (lb : List Nat) (eb : Int) (Hb : Num w b nb cb lb) (hb0 : -9223372036854775808 ≤ eb) (hb1 : eb ≤ 9223372036854775807) :
    Calls Tryz.prog 8 #[.agg #[.bool sa, .slice a na ca, .int .i64 ea], .agg #[.bool sb, .slice b nb cb, .int .i64 eb]] w fun e w' => e = .returned (.bool true) ∧ Below w.heap.size w w' := by
  have HS : Hid (At w w [(a, na, ca, la), (b, nb, cb, lb)]) := Lib.hid ⟨Below.refl _ _, Ha, Hb, trivial⟩
  have Ia : Hid (na = la.length ∧ Limbs la ∧ na ≤ 9223372036854775807) := Lib.hid ⟨Ha.1, Ha.limbs, by have h1 := Ha.1; have h2 := Ha.2.1; have h3 := Ha.2.2.1; unfold maxLen at h3; omega⟩
  have Ib : Hid (nb = lb.length ∧ Limbs lb ∧ nb ≤ 9223372036854775807) := Lib.hid ⟨Hb.1, Hb.limbs, by have h1 := Hb.1; have h2 := Hb.2.1; have h3 := Hb.2.2.1; unfold maxLen at h3; omega⟩
  clear Ha Hb
  have Xa := (Boxed3.new w sa a na ca ea 24 (g := w.heap.size) (by simp)).alloc (.cells #[.bool sb, .slice b nb cb, .int .i64 eb] 24)
  have Xb := Boxed3.new (w.alloc (.cells #[.bool sa, .slice a na ca, .int .i64 ea] 24)) sb b nb cb eb 24 (g := w.heap.size + 1) (by simp)
  have hlg : Hid (na ≤ 9223372036854775807 ∧ nb ≤ 9223372036854775807) := Lib.hid ⟨Ia.out.2.2, Ib.out.2.2⟩
  by_cases hc : (40 : Int) < (na : Int)
  · have hd := decide_eq_true hc
    clear hc
    go_enter Tryz.func8, Tryz.ntmps8
    go_wp2_with fail
    refine (llong_any sa ea hlg.out.1).mono ?_
    rintro e w1 ⟨rfl, hb⟩
    have B_a := Lib.hid (Xa.below hb)
    have B_b := Lib.hid (Xb.below hb)
    replace HS := Lib.hid (HS.out.call (by repeat' (first | exact Below.refl _ _ | refine below_alloc ?_ _)) hb)
    clear hb Xa Xb
    rw [hd]
    go_wp2_with fail
    refine (known3_any _ (hT.below (below_step HS.out.1 (by repeat' (first | exact Below.refl _ _ | refine below_alloc ?_ _)))) (PowT_below hQ (below_step HS.out.1 (by repeat' (first | exact Below.refl _ _ | refine below_alloc ?_ _))))).mono ?_
    rintro e w2 ⟨rfl, hb⟩
    replace B_a := Lib.hid (B_a.out.later (by repeat' (first | exact Below.refl _ _ | refine below_alloc ?_ _)) hb)
    replace B_b := Lib.hid (B_b.out.later (by repeat' (first | exact Below.refl _ _ | refine below_alloc ?_ _)) hb)
    replace HS := Lib.hid (HS.out.call (by repeat' (first | exact Below.refl _ _ | refine below_alloc ?_ _)) hb)
    clear hb
    go_wp2_with fail
    go_ret
    exact ⟨rfl, HS.out.1⟩
  · have hd := decide_eq_false hc
    by_cases hc' : (40 : Int) < (nb : Int)
    · have hd' := decide_eq_true hc'
      clear hc hc'
      go_enter Tryz.func8, Tryz.ntmps8
      go_wp2_with fail
      refine (llong_any sa ea hlg.out.1).mono ?_
      rintro e w1 ⟨rfl, hb⟩
      have B_a := Lib.hid (Xa.below hb)
      have B_b := Lib.hid (Xb.below hb)
      replace HS := Lib.hid (HS.out.call (by repeat' (first | exact Below.refl _ _ | refine below_alloc ?_ _)) hb)
      clear hb Xa Xb
      rw [hd]
      obtain ⟨b0, b1, b2, _, _, _⟩ := id (B_b.out)
      go_wp2_with fail
      refine (llong_any sb eb hlg.out.2).mono ?_
      rintro e w2 ⟨rfl, hb⟩
      replace B_a := Lib.hid (B_a.out.later (by repeat' (first | exact Below.refl _ _ | refine below_alloc ?_ _)) hb)
      replace B_b := Lib.hid (B_b.out.later (by repeat' (first | exact Below.refl _ _ | refine below_alloc ?_ _)) hb)
      clear b0 b1 b2
      replace HS := Lib.hid (HS.out.call (by repeat' (first | exact Below.refl _ _ | refine below_alloc ?_ _)) hb)
      clear hb
      rw [hd']
      go_wp2_with fail
      refine (known3_any _ (hT.below (below_step HS.out.1 (by repeat' (first | exact Below.refl _ _ | refine below_alloc ?_ _)))) (PowT_below hQ (below_step HS.out.1 (by repeat' (first | exact Below.refl _ _ | refine below_alloc ?_ _))))).mono ?_
      rintro e w3 ⟨rfl, hb⟩
      replace B_a := Lib.hid (B_a.out.later (by repeat' (first | exact Below.refl _ _ | refine below_alloc ?_ _)) hb)
      replace B_b := Lib.hid (B_b.out.later (by repeat' (first | exact Below.refl _ _ | refine below_alloc ?_ _)) hb)
      replace HS := Lib.hid (HS.out.call (by repeat' (first | exact Below.refl _ _ | refine below_alloc ?_ _)) hb)
      clear hb
      go_wp2_with fail
      go_ret
      exact ⟨rfl, HS.out.1⟩
    · have hd' := decide_eq_false hc'
      have hla : la.length ≤ 40 := by have := Ia.out.1; omega
      have hlb : lb.length ≤ 40 := by have := Ib.out.1; omega
      have hla' : (limbs (valL la)).length ≤ 40 := Nat.le_trans (len_of Ia.out.2.1) hla
      have hlb' : (limbs (valL lb)).length ≤ 40 := Nat.le_trans (len_of Ib.out.2.1) hlb
      have HI : Hid (-9223372036854775808 ≤ ea ∧ ea ≤ 9223372036854775807 ∧ -9223372036854775808 ≤ eb ∧ eb ≤ 9223372036854775807) := Lib.hid ⟨ha0, ha1, hb0, hb1⟩
      clear hc hc'
      by_cases hap : apartP ea eb
      · have ht := decide_eq_true hap
        clear hap hla hlb hla' hlb'
        go_enter Tryz.func8, Tryz.ntmps8
        go_wp2_with fail
        refine (llong_any sa ea hlg.out.1).mono ?_
        rintro e w1 ⟨rfl, hb⟩
        have B_a := Lib.hid (Xa.below hb)
        have B_b := Lib.hid (Xb.below hb)
        replace HS := Lib.hid (HS.out.call (by repeat' (first | exact Below.refl _ _ | refine below_alloc ?_ _)) hb)
        clear hb Xa Xb
        rw [hd]
        obtain ⟨b0, b1, b2, _, _, _⟩ := id (B_b.out)
        go_wp2_with fail
        refine (llong_any sb eb hlg.out.2).mono ?_
        rintro e w2 ⟨rfl, hb⟩
        replace B_a := Lib.hid (B_a.out.later (by repeat' (first | exact Below.refl _ _ | refine below_alloc ?_ _)) hb)
        replace B_b := Lib.hid (B_b.out.later (by repeat' (first | exact Below.refl _ _ | refine below_alloc ?_ _)) hb)
        clear b0 b1 b2
        replace HS := Lib.hid (HS.out.call (by repeat' (first | exact Below.refl _ _ | refine below_alloc ?_ _)) hb)
        clear hb
        rw [hd']
        obtain ⟨a0, a1, a2, _, _, _⟩ := id (B_a.out)
        obtain ⟨b0, b1, b2, _, _, _⟩ := id (B_b.out)
        go_wp2_with fail
        refine (lapart_any sa sb ea eb HI.out.1 HI.out.2.1 HI.out.2.2.1 HI.out.2.2.2).mono ?_
        rintro e w3 ⟨rfl, hb⟩
        replace B_a := Lib.hid (B_a.out.later (by repeat' (first | exact Below.refl _ _ | refine below_alloc ?_ _)) hb)
        replace B_b := Lib.hid (B_b.out.later (by repeat' (first | exact Below.refl _ _ | refine below_alloc ?_ _)) hb)
        clear a0 a1 a2 b0 b1 b2
        replace HS := Lib.hid (HS.out.call (by repeat' (first | exact Below.refl _ _ | refine below_alloc ?_ _)) hb)
        clear hb
        rw [ht]
        go_wp2_with fail
        refine (known3_any _ (hT.below (below_step HS.out.1 (by repeat' (first | exact Below.refl _ _ | refine below_alloc ?_ _)))) (PowT_below hQ (below_step HS.out.1 (by repeat' (first | exact Below.refl _ _ | refine below_alloc ?_ _))))).mono ?_
        rintro e w4 ⟨rfl, hb⟩
        replace B_a := Lib.hid (B_a.out.later (by repeat' (first | exact Below.refl _ _ | refine below_alloc ?_ _)) hb)
        replace B_b := Lib.hid (B_b.out.later (by repeat' (first | exact Below.refl _ _ | refine below_alloc ?_ _)) hb)
        replace HS := Lib.hid (HS.out.call (by repeat' (first | exact Below.refl _ _ | refine below_alloc ?_ _)) hb)
        clear hb
        go_wp2_with fail
        go_ret
        exact ⟨rfl, HS.out.1⟩
      · have ht := decide_eq_false hap
        have hnear := near_of_apart (s := sa) (s' := (!sb)) Ia.out.2.1 Ib.out.2.1 hla hlb hap
        obtain ⟨R, r, hO⟩ : ∃ R r, addO ⟨sa, valL la, ea⟩ ⟨(!sb), valL lb, eb⟩ = (R, r) := ⟨_, _, rfl⟩
        have hR : (limbs R.m).length ≤ 10000 := by
          have := addO_len (x := ⟨sa, valL la, ea⟩) (y := ⟨(!sb), valL lb, eb⟩) hla' hlb' hnear
          rw [hO] at this
          exact this
        have HO := Lib.hid (And.intro hO (And.intro hR (And.intro (show la.length + lb.length ≤ 1000 by omega) hnear)))
        clear hap hla hlb hla' hlb' hO hR hnear
        go_enter Tryz.func8, Tryz.ntmps8
        go_wp2_with fail
        refine (llong_any sa ea hlg.out.1).mono ?_
        rintro e w1 ⟨rfl, hb⟩
        have B_a := Lib.hid (Xa.below hb)
        have B_b := Lib.hid (Xb.below hb)
        replace HS := Lib.hid (HS.out.call (by repeat' (first | exact Below.refl _ _ | refine below_alloc ?_ _)) hb)
        clear hb Xa Xb
        rw [hd]
        obtain ⟨b0, b1, b2, _, _, _⟩ := id (B_b.out)
        go_wp2_with fail
        refine (llong_any sb eb hlg.out.2).mono ?_
        rintro e w2 ⟨rfl, hb⟩
        replace B_a := Lib.hid (B_a.out.later (by repeat' (first | exact Below.refl _ _ | refine below_alloc ?_ _)) hb)
        replace B_b := Lib.hid (B_b.out.later (by repeat' (first | exact Below.refl _ _ | refine below_alloc ?_ _)) hb)
        clear b0 b1 b2
        replace HS := Lib.hid (HS.out.call (by repeat' (first | exact Below.refl _ _ | refine below_alloc ?_ _)) hb)
        clear hb
        rw [hd']
        obtain ⟨a0, a1, a2, _, _, _⟩ := id (B_a.out)
        obtain ⟨b0, b1, b2, _, _, _⟩ := id (B_b.out)
        go_wp2_with fail
        refine (lapart_any sa sb ea eb HI.out.1 HI.out.2.1 HI.out.2.2.1 HI.out.2.2.2).mono ?_
        rintro e w3 ⟨rfl, hb⟩
        replace B_a := Lib.hid (B_a.out.later (by repeat' (first | exact Below.refl _ _ | refine below_alloc ?_ _)) hb)
        replace B_b := Lib.hid (B_b.out.later (by repeat' (first | exact Below.refl _ _ | refine below_alloc ?_ _)) hb)
        clear a0 a1 a2 b0 b1 b2
        replace HS := Lib.hid (HS.out.call (by repeat' (first | exact Below.refl _ _ | refine below_alloc ?_ _)) hb)
        clear hb
        rw [ht]
        obtain ⟨a0, a1, a2, _, _, _⟩ := id (B_a.out)
        obtain ⟨b0, b1, b2, _, _, _⟩ := id (B_b.out)
        go_wp2_with fail
        refine (dSub_any sa sb ea eb R r (hT.below (below_step HS.out.1 (by repeat' (first | exact Below.refl _ _ | refine below_alloc ?_ _)))) (HS.out.get 0 rfl (by repeat' (first | exact Below.refl _ _ | refine below_alloc ?_ _))) (HS.out.get 1 rfl (by repeat' (first | exact Below.refl _ _ | refine below_alloc ?_ _))) HO.out.2.2.1 HO.out.2.2.2 HO.out.1).mono ?_
        rintro e w4 ⟨a_p, n_p, c_p, rfl, h0, hb⟩
        replace B_a := Lib.hid (B_a.out.later (by repeat' (first | exact Below.refl _ _ | refine below_alloc ?_ _)) hb)
        replace B_b := Lib.hid (B_b.out.later (by repeat' (first | exact Below.refl _ _ | refine below_alloc ?_ _)) hb)
        clear a0 a1 a2 b0 b1 b2
        replace HS := Lib.hid (HS.out.num (by repeat' (first | exact Below.refl _ _ | refine below_alloc ?_ _)) hb h0)
        have L_p := Lib.hid h0.1
        clear hb h0
        obtain ⟨a0, a1, a2, _, _, _⟩ := id ((B_a.out).alloc (.cells #[.bool (R.s), .slice a_p n_p c_p, .int .i64 (R.e)] 24))
        obtain ⟨b0, b1, b2, _, _, _⟩ := id ((B_b.out).alloc (.cells #[.bool (R.s), .slice a_p n_p c_p, .int .i64 (R.e)] 24))
        go_wp2_with fail
        refine (rSub3_any sa sb ea eb R r (HS.out.get 1 rfl (by repeat' (first | exact Below.refl _ _ | refine below_alloc ?_ _))) (HS.out.get 2 rfl (by repeat' (first | exact Below.refl _ _ | refine below_alloc ?_ _))) HO.out.2.2.1 HO.out.2.2.2 HO.out.1).mono ?_
        rintro e w5 ⟨a_x, n_x, c_x, rfl, h0, hb⟩
        replace B_a := Lib.hid (B_a.out.later (by repeat' (first | exact Below.refl _ _ | refine below_alloc ?_ _)) hb)
        replace B_b := Lib.hid (B_b.out.later (by repeat' (first | exact Below.refl _ _ | refine below_alloc ?_ _)) hb)
        have B_p := Lib.hid (Boxed3.later (Boxed3.new w4 (R.s) a_p n_p c_p (R.e) 24 (g := w4.heap.size) (by simp)) (by repeat' (first | exact Below.refl _ _ | refine below_alloc ?_ _)) hb)
        clear a0 a1 a2 b0 b1 b2
        replace HS := Lib.hid (HS.out.num (by repeat' (first | exact Below.refl _ _ | refine below_alloc ?_ _)) hb h0)
        have L_x := Lib.hid h0.1
        clear hb h0
        obtain ⟨p0, p1, p2, _, _, _⟩ := id ((B_p.out).alloc (.cells #[.bool (R.s), .slice a_x n_x c_x, .int .i64 (R.e)] 24))
        go_wp2_with fail
        refine (rsame3_any R.s R.e (HS.out.get 1 rfl (by repeat' (first | exact Below.refl _ _ | refine below_alloc ?_ _))) (HS.out.get 0 rfl (by repeat' (first | exact Below.refl _ _ | refine below_alloc ?_ _))) rfl HO.out.2.1).mono ?_
        rintro e w6 ⟨rfl, hb⟩
        replace B_a := Lib.hid (B_a.out.later (by repeat' (first | exact Below.refl _ _ | refine below_alloc ?_ _)) hb)
        replace B_b := Lib.hid (B_b.out.later (by repeat' (first | exact Below.refl _ _ | refine below_alloc ?_ _)) hb)
        replace B_p := Lib.hid (B_p.out.later (by repeat' (first | exact Below.refl _ _ | refine below_alloc ?_ _)) hb)
        have B_x := Lib.hid (Boxed3.later (Boxed3.new w5 (R.s) a_x n_x c_x (R.e) 24 (g := w5.heap.size) (by simp)) (by repeat' (first | exact Below.refl _ _ | refine below_alloc ?_ _)) hb)
        clear p0 p1 p2
        replace HS := Lib.hid (HS.out.call (by repeat' (first | exact Below.refl _ _ | refine below_alloc ?_ _)) hb)
        clear hb
        go_wp2_with fail
        refine (num3_any r _).mono ?_
        rintro e w' ⟨rfl, rfl⟩
        go_wp2_with fail
        refine (known3_any _ (hT.below (below_step HS.out.1 (by repeat' (first | exact Below.refl _ _ | refine below_alloc ?_ _)))) (PowT_below hQ (below_step HS.out.1 (by repeat' (first | exact Below.refl _ _ | refine below_alloc ?_ _))))).mono ?_
        rintro e w7 ⟨rfl, hb⟩
        replace B_a := Lib.hid (B_a.out.later (by repeat' (first | exact Below.refl _ _ | refine below_alloc ?_ _)) hb)
        replace B_b := Lib.hid (B_b.out.later (by repeat' (first | exact Below.refl _ _ | refine below_alloc ?_ _)) hb)
        replace B_p := Lib.hid (B_p.out.later (by repeat' (first | exact Below.refl _ _ | refine below_alloc ?_ _)) hb)
        replace B_x := Lib.hid (B_x.out.later (by repeat' (first | exact Below.refl _ _ | refine below_alloc ?_ _)) hb)
        replace HS := Lib.hid (HS.out.call (by repeat' (first | exact Below.refl _ _ | refine below_alloc ?_ _)) hb)
        clear hb
        go_wp2_with fail
        go_ret
        exact ⟨rfl, HS.out.1⟩
end Go.Proofs.YtjlaadadbpffdaaGreatDoor
