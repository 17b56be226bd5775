/-
  Layer 3's laws, walked: DyadOf (printed by dyadlaws.py).
-/
import Derived.Test.YtjlaadadbpffdaaGreatDoorPartsR
import Derived.Test.YtjlaadadbpffdaaGreatDoorDyP
import Derived.Deep.RegionHeld3
set_option linter.unusedSimpArgs false
set_option linter.unusedVariables false
namespace Go.Proofs.YtjlaadadbpffdaaGreatDoor
open Go.RowKit Go.Plumb

theorem dOf_v {w : World} (x : Nat) (hx : x < 18446744073709551616) (hc : classI (x : Int) ≤ 3) {X : Dy} (hX : nrm (dyW x) = X) (hT : Tab w) :
    Calls Tryz.prog 25 #[.float .f64 x] w fun z w' => ∃ a' n' c', z = .returned (.tuple #[.agg #[.bool X.s, .slice a' n' c', .int .i64 X.e], .int .i64 0]) ∧ Num w' a' n' c' (limbs X.m) ∧ Below w.heap.size w w' := by
  subst hX
  exact dOf_any x hx hc hT
set_option maxRecDepth 100000 in
set_option maxHeartbeats 4000000 in
theorem w_DyadOf (w : World) (hT : Tab w) (hQ : PowT Tryz.prog w) (x : Nat) (hx : x < 18446744073709551616) :
    Calls Tryz.prog 5 #[.int .u64 (x : Int)] w fun e w' => e = .returned (.bool true) ∧ Below w.heap.size w w' := by
  have HS : Hid (At w w []) := Lib.hid (At.start w)
  have hr := run_frombits
  have hxx : ((x : Int)).toNat = x := by omega
  obtain ⟨X, hX⟩ : ∃ X, nrm (dyW x) = X := ⟨_, rfl⟩
  have HX := Lib.hid hX
  by_cases hc : classI (x : Int) ≤ 3
  · have HC := Lib.hid hc
    have hd : decide (classI (x : Int) ≤ 3) = true := decide_eq_true hc
    have hmay : mayE X.e := by
      obtain ⟨KK, hKK⟩ : ∃ K, K = 2100 := ⟨_, rfl⟩
      have h1 := word_val x KK hKK
      have h2 := nrm_hi (P := 1074) (d := dyW x) (dyW_e x).1 h1 (by omega) (by omega)
      rw [hX] at h2
      unfold mayE
      omega
    have hlen : (limbs X.m).length ≤ 1 := by
      rw [← hX, nrm_m]
      exact len_le_one (Nat.lt_of_le_of_lt (oddN_le _) (by have := dyW_m_lt x; omega))
    have hnx : nrm ⟨X.s, X.m, X.e⟩ = X := by show nrm X = X; rw [← hX, nrm_nrm]
    have hor : FloatKind.f64.format.order (rndD X) x = some .eq := by rw [← hX]; exact of_word x hc hx
    have hfe : (FloatKind.f64.format.order (rndD X) x == some Ordering.eq) = true := by rw [hor]; rfl
    have HH : Hid (mayE X.e ∧ (limbs X.m).length ≤ 1 ∧ nrm ⟨X.s, X.m, X.e⟩ = X ∧ x < 18446744073709551616) := Lib.hid ⟨hmay, hlen, hnx, hx⟩
    obtain ⟨F, hF⟩ : ∃ F, rndD X = F := ⟨_, rfl⟩
    rw [hF] at hfe hor
    have HF := Lib.hid hF
    clear hmay hlen hnx hX hc hx hF hor
    go_enter Tryz.func5, Tryz.ntmps5
    go_wp2_with fail
    refine (dOf_v x HH.out.2.2.2 HC.out HX.out (hT.below (below_step HS.out.1 (by repeat' (first | exact Below.refl _ _ | refine below_alloc ?_ _))))).mono ?_
    rintro e w1 ⟨a_d, n_d, c_d, rfl, h0, hb⟩
    replace HS := Lib.hid (HS.out.num (by repeat' (first | exact Below.refl _ _ | refine below_alloc ?_ _)) hb h0)
    have L_d := Lib.hid h0.1
    clear hb h0
    go_wp2_with fail
    refine (rfinite_any (x : Int) _ (by omega) (by have := HH.out.2.2.2; omega)).mono ?_
    rintro e w' ⟨rfl, rfl⟩
    rw [hd]
    go_wp2_with fail
    refine (dFloat_v X.s X.e F (hT.below (below_step HS.out.1 (by repeat' (first | exact Below.refl _ _ | refine below_alloc ?_ _)))) (HS.out.get 0 rfl (by repeat' (first | exact Below.refl _ _ | refine below_alloc ?_ _))) (valL_limbs _) (Nat.le_trans HH.out.2.1 (by decide)) HH.out.1 (by rw [HH.out.2.2.1]; exact HF.out)).mono ?_
    rintro e w2 ⟨rfl, hb⟩
    have B_d := Lib.hid (Boxed3.later (Boxed3.new w1 (X.s) a_d n_d c_d (X.e) 24 (g := w1.heap.size) (by simp)) (by repeat' (first | exact Below.refl _ _ | refine below_alloc ?_ _)) hb)
    replace HS := Lib.hid (HS.out.call (by repeat' (first | exact Below.refl _ _ | refine below_alloc ?_ _)) hb)
    clear hb
    obtain ⟨d0, d1, d2, _, _, _⟩ := id B_d.out
    clear d0 d1 d2
    go_wp2_with fail
    have HSS : Hid (∀ wx, Below w2.heap.size w2 wx → Below w2.heap.size w2 wx ∧ wx.cell? ⟨w1.heap.size, 0, none⟩ = some (.bool X.s) ∧ wx.cell? ⟨w1.heap.size, 1, none⟩ = some (.slice a_d n_d c_d) ∧ wx.cell? ⟨w1.heap.size, 2, none⟩ = some (.int .i64 X.e)) := Lib.hid (fun wx h => ⟨h, (B_d.out.below h).c0, (B_d.out.below h).c1, (B_d.out.below h).c2⟩)
    have HB0 := Below.refl w2.heap.size w2
    have f1 := fun wx => rWord3_any (w := wx) x HH.out.2.2.2 HC.out HX.out
    have f2 := fun wx (h : Below w2.heap.size w2 wx) (a : Option Addr) (n c : Nat) (hn : Num wx a n c (limbs X.m)) => rsame3_any X.s X.e ((HS.out.get 0 rfl h)) hn rfl (Nat.le_trans HH.out.2.1 (by decide))
    have f3 := fun wx (h : Below w2.heap.size w2 wx) => known3_any wx (hT.below (below_step HS.out.1 h)) (PowT_below hQ (below_step HS.out.1 h))
    clear B_d hT hQ
    go_region_held3 (fun wx => Below w2.heap.size w2 wx ∧ wx.cell? ⟨w1.heap.size, 0, none⟩ = some (.bool X.s) ∧ wx.cell? ⟨w1.heap.size, 1, none⟩ = some (.slice a_d n_d c_d) ∧ wx.cell? ⟨w1.heap.size, 2, none⟩ = some (.int .i64 X.e)) (first | exact HSS.out _ (by assumption) | exact HSS.out _ (Below.drew (by assumption))) ((first | (go_at_call 31; (with_reducible refine (f1 _).mono ?_); rintro e wz ⟨ha, hn, hc, rfl, hN, hb⟩; have HB0 := below_step (w0 := w2) (by first | assumption | exact Below.drew (by assumption)) hb; clear hb) | (go_at_call 27; (with_reducible refine (f2 _ (by first | assumption | exact Below.drew (by assumption)) _ _ _ (by assumption)).mono ?_); rintro e wz ⟨rfl, hb⟩; have HB0 := below_step (w0 := w2) (by first | assumption | exact Below.drew (by assumption)) hb; clear hb) | (go_at_call 28; (with_reducible refine (num3_any _ _).mono ?_); rintro e w' ⟨rfl, rfl⟩) | (go_at_call 29; (with_reducible refine (f3 _ (by first | assumption | exact Below.drew (by assumption))).mono ?_); rintro e wz ⟨rfl, hb⟩; have HB0 := below_step (w0 := w2) (by first | assumption | exact Below.drew (by assumption)) hb; clear hb)))
    all_goals go_wp2_with fail
    all_goals go_ret
    all_goals exact ⟨rfl, below_step HS.out.1 (by first | assumption | exact Below.drew (by assumption))⟩
  · have HC : Hid (3 < classI (x : Int)) := Lib.hid (by omega)
    have hd : decide (classI (x : Int) ≤ 3) = false := decide_eq_false hc
    have HH := Lib.hid hx
    clear hX hc hx
    go_enter Tryz.func5, Tryz.ntmps5
    go_wp2_with fail
    refine (dOf_bad x HH.out HC.out).mono ?_
    rintro e w1 ⟨rfl, hb⟩
    replace HS := Lib.hid (HS.out.call (by repeat' (first | exact Below.refl _ _ | refine below_alloc ?_ _)) hb)
    clear hb
    go_wp2_with fail
    refine (rfinite_any (x : Int) _ (by omega) (by have := HH.out; omega)).mono ?_
    rintro e w' ⟨rfl, rfl⟩
    rw [hd]
    go_wp2_with fail
    refine (rsame3_any false 0 (Num.nil _) (Num.nil _) rfl (by decide)).mono ?_
    rintro e w2 ⟨rfl, hb⟩
    have B_d := Lib.hid (Boxed3.later (Boxed3.new w1 (false) none 0 0 (0) 24 (g := w1.heap.size) (by simp)) (by repeat' (first | exact Below.refl _ _ | refine below_alloc ?_ _)) hb)
    replace HS := Lib.hid (HS.out.call (by repeat' (first | exact Below.refl _ _ | refine below_alloc ?_ _)) hb)
    clear hb
    go_wp2_with fail
    refine (num3_any 2 _).mono ?_
    rintro e w' ⟨rfl, rfl⟩
    go_wp2_with fail
    refine (known3_any _ (hT.below (below_step HS.out.1 (by repeat' (first | exact Below.refl _ _ | refine below_alloc ?_ _)))) (PowT_below hQ (below_step HS.out.1 (by repeat' (first | exact Below.refl _ _ | refine below_alloc ?_ _))))).mono ?_
    rintro e w3 ⟨rfl, hb⟩
    replace B_d := Lib.hid (B_d.out.later (by repeat' (first | exact Below.refl _ _ | refine below_alloc ?_ _)) hb)
    replace HS := Lib.hid (HS.out.call (by repeat' (first | exact Below.refl _ _ | refine below_alloc ?_ _)) hb)
    clear hb
    go_wp2_with fail
    go_ret
    exact ⟨rfl, HS.out.1⟩
end Go.Proofs.YtjlaadadbpffdaaGreatDoor
