/-
  Walks of the reference's: Exact.
-/
import Derived.Test.YtaeognfpmhfmgaaDoorBitsW
set_option linter.unusedSimpArgs false
set_option linter.unusedVariables false
namespace Go.Plumb
/-- What the reference's Exact asks: the two numbers without noughts at their ends are one. -/
def rexactB (neg : Bool) (m e : Int) : Bool := decide (m = 0) || (decide (-3000 ≤ e) && decide (e ≤ 3000) && decide (classI (roundW neg m e false) ≤ 3) && (oddM (pMan (roundW neg m e false)) == oddM m && pExp (roundW neg m e false) + Lib.ctz 64 (pMan (roundW neg m e false)).toNat == e + Lib.ctz 64 m.toNat))
/-- Noughts that are struck one by one: what is left is without them. -/
theorem ctz_unique (n m k : Nat) (hn : n < 18446744073709551616) (h : n = 2 ^ k * m) (hm : m % 2 = 1) : Lib.ctz 64 n = k := by
  have h0 : n ≠ 0 := by
    intro h0; subst h0
    have : 2 ^ k * m ≠ 0 := Nat.mul_ne_zero (Nat.pos_iff_ne_zero.1 (Nat.two_pow_pos k)) (by omega)
    exact this h.symm
  obtain ⟨m', hm', hk'⟩ := Lib.ctzFrom_spec 64 n (by omega) (by simpa using hn)
  have e : Lib.ctz 64 n = Lib.ctzFrom 64 n := by unfold Lib.ctz; rw [if_neg h0]
  rw [e]
  generalize Lib.ctzFrom 64 n = k' at *
  rw [h] at hm'
  rcases Nat.lt_trichotomy k' k with hlt | heq | hgt
  · exfalso
    obtain ⟨d, rfl⟩ : ∃ d, k = k' + (d + 1) := ⟨k - k' - 1, by omega⟩
    rw [Nat.pow_add, Nat.mul_assoc] at hm'
    have := Nat.eq_of_mul_eq_mul_left (Nat.two_pow_pos k') hm'
    rw [Nat.pow_succ, Nat.mul_comm (2 ^ d) 2, Nat.mul_assoc] at this
    omega
  · exact heq
  · exfalso
    obtain ⟨d, rfl⟩ : ∃ d, k' = k + (d + 1) := ⟨k' - k - 1, by omega⟩
    rw [Nat.pow_add, Nat.mul_assoc] at hm'
    have := Nat.eq_of_mul_eq_mul_left (Nat.two_pow_pos k) hm'
    rw [Nat.pow_succ, Nat.mul_comm (2 ^ d) 2, Nat.mul_assoc] at this
    omega
theorem odd_done (m x : Int) (j : Nat) (h0 : 0 < m) (h1 : m < 18446744073709551616) (hx : m = x * 2 ^ j) (hodd : x % 2 ≠ 0) : Lib.ctz 64 m.toNat = j ∧ oddM m = x := by
  have hp : (0 : Int) < 2 ^ j := Int.pow_pos (by decide)
  have hx0 : 0 < x := by
    apply Int.lt_of_not_ge
    intro h
    have : x * 2 ^ j ≤ 0 * 2 ^ j := Int.mul_le_mul_of_nonneg_right h (by omega)
    omega
  obtain ⟨X, rfl⟩ := Int.eq_ofNat_of_zero_le (Int.le_of_lt hx0)
  have hm : m.toNat = 2 ^ j * X := by
    have : m = ((2 ^ j * X : Nat) : Int) := by rw [hx]; simp [Int.mul_comm]
    omega
  have hc := ctz_unique m.toNat X j (by omega) hm (by omega)
  refine ⟨hc, ?_⟩
  unfold oddM
  rw [if_neg (by omega), hc, hx, Int.mul_ediv_cancel _ (by omega)]
theorem roundW_strip (neg : Bool) (m e x : Int) (j : Nat) (h0 : 0 ≤ x) (hx : m = x * 2 ^ j) : roundW neg x (e + j) false = roundW neg m e false := by
  unfold roundW
  simp only [Bool.false_eq_true, if_false]
  obtain ⟨X, rfl⟩ := Int.eq_ofNat_of_zero_le h0
  have hm : m.toNat = X * 2 ^ j := by
    have : m = ((X * 2 ^ j : Nat) : Int) := by rw [hx]; simp
    omega
  rw [hm, Int.toNat_natCast]
  have := roundN_scale neg X (e + j) j
  rw [show e + (j : Int) - j = e by omega] at this
  rw [this]
theorem two_pow_bound (x : Int) (j : Nat) (hx : 0 < x) (h : x * 2 ^ j < 18446744073709551616) : j < 64 := by
  apply Nat.lt_of_not_le
  intro hj
  have hp : (2 : Int) ^ 64 ≤ 2 ^ j := by
    have := Nat.pow_le_pow_right (n := 2) (by decide) hj
    exact_mod_cast this
  have h64 : (2 : Int) ^ 64 = 18446744073709551616 := by decide
  have : 1 * 2 ^ j ≤ x * 2 ^ j := Int.mul_le_mul_of_nonneg_right (by omega) (by omega)
  omega
end Go.Plumb
namespace Go.Proofs.YtaeognfpmhfmgaaDoor
open Go.RowKit Go.Plumb

set_option maxHeartbeats 2000000 in
theorem rexact_core (neg : Bool) (m e W : Int) (w : World) (h0 : 0 < m) (h1 : m < 18446744073709551616) (he0 : -3000 ≤ e) (he1 : e ≤ 3000) (hW : roundW neg m e false = W) (W0 : 0 ≤ W) (W1 : W < 18446744073709551616) (b : Bool)
    (hB : b = (decide (classI W ≤ 3) && (oddM (pMan W) == oddM m && pExp W + Lib.ctz 64 (pMan W).toNat == e + Lib.ctz 64 m.toNat))) (hz : classI W ≤ 3 → pMan W = 0 → b = false) :
    Calls Tryd.prog 26 #[.agg #[.bool neg, .int .u64 m, .int .i64 e]] w fun e' w' => e' = .returned (.tuple #[.int .u64 (if b then W else 0), .bool b]) ∧ Below w.heap.size w w' := by
  have HB := Lib.hid hB
  have HZ := Lib.hid hz
  have hmb : (m == 0) = false := by simp; omega
  clear hB hz
  go_enter Tryd.func26, Tryd.ntmps26
  go_wp2_with fail
  go_quiet (fail)
  go_wp2_with fail
  have HM0 := Lib.hid h0
  clear hmb h0
  go_loop [4, 5] (fun v4 v5 => ∃ (j : Nat) (x y : Int), v4 = .int .u64 x ∧ v5 = .int .i64 y ∧ Hid (m = x * 2 ^ j) ∧ Hid (y = e + j) ∧ 0 < x ∧ x < 18446744073709551616 ∧ -3000 ≤ y ∧ y ≤ 3064) (fun v4 _ => (intOf v4).toNat)
  case atStart => exact ⟨0, m, e, rfl, rfl, Lib.hid (by simp), Lib.hid (by simp), HM0.out, h1, he0, by omega⟩
  case round =>
    obtain ⟨j, x, y, rfl, rfl, HX, HY, x0, x1, y0, y1⟩ := hrel
    have hj64 : j < 64 := two_pow_bound x j x0 (by rw [← HX.out]; exact h1)
    have hy2 : y ≤ 3063 := by have := HY.out; omega
    clear y1 hj64
    by_cases hev : x % 2 = 0
    · have HEV := Lib.hid hev
      have hevb : (x % 2 == 0) = true := by simpa using hev
      clear hev
      go_wp2_with fail
      go_round
      case rel =>
        have hev := HEV.out
        exact ⟨j + 1, x / 2, y + 1, rfl, rfl, Lib.hid (by rw [HX.out, Int.pow_succ, Int.mul_comm (2 ^ j) 2, ← Int.mul_assoc]; congr 1; omega), Lib.hid (by rw [HY.out]; omega), by omega, by omega, by omega, by omega⟩
      case measure =>
        have hev := HEV.out
        simp [intOf]; omega
    · have HOD := Lib.hid (odd_done m x j HM0.out h1 HX.out hev)
      have hevb : (x % 2 == 0) = false := by simpa using hev
      have hr : roundW neg x y false = W := by rw [HY.out, roundW_strip neg m e x j (by omega) HX.out]; exact hW
      have x0' : 0 ≤ x := by omega
      have hC : Hid (∀ M E : Int, M = oddM (pMan W) → E = pExp W + Lib.ctz 64 (pMan W).toNat → classI W ≤ 3 → (M == x && E == y) = b) := by
        intro M E hM hE hc
        rw [HB.out, HOD.out.1, HOD.out.2, ← hM, ← hE, HY.out]
        simp [hc]
      clear hev hW
      by_cases hcls : classI W ≤ 3
      · have hcb : decide (classI W ≤ 3) = true := by simpa using hcls
        by_cases hp0 : pMan W = 0
        · have hb := HZ.out hcls hp0
          subst hb
          have hx0b : ((0 : Int) != x) = true := by simp; omega
          go_wp2_with (first | (go_at_call 21; (with_reducible refine (rfinite_any _ _ (by assumption) (by assumption)).mono ?_); rintro e w' ⟨rfl, rfl⟩) | (go_at_call 28; (with_reducible refine (rroundf_any _ _ _ _ (by assumption) (by assumption)).mono ?_); rintro e w' ⟨rfl, hb⟩; have hB := below_step (w0 := w) (by (repeat' (first | exact Below.refl _ _ | assumption | (refine below_alloc ?_ _) | (refine Below.setCell ?_ ?_ _) | (refine Below.drew ?_) | (refine below_drewN ?_ _))) <;> (first | (simp; done) | (simp; omega) | omega)) hb; have hs := hb.size; (try simp at hs); (try have hz0 : w.heap.size < w'.heap.size := by omega); (try have hz1 : w.heap.size + 1 < w'.heap.size := by omega); (try have hz2 : w.heap.size + 1 + 1 < w'.heap.size := by omega); (try have hz3 : w.heap.size + 1 + 1 + 1 < w'.heap.size := by omega); obtain ⟨hc, hf⟩ := bcell hb; clear hb) | (go_at_call 25; (with_reducible refine (rparts_any _ _ (by assumption) (by assumption) (by assumption)).mono ?_); rintro e w' ⟨rfl, hb⟩; have hB := below_step (w0 := w) (by (repeat' (first | exact Below.refl _ _ | assumption | (refine below_alloc ?_ _) | (refine Below.setCell ?_ ?_ _) | (refine Below.drew ?_) | (refine below_drewN ?_ _))) <;> (first | (simp; done) | (simp; omega) | omega)) hb; have hs := hb.size; (try simp at hs); (try have hz0 : w.heap.size < w'.heap.size := by omega); (try have hz1 : w.heap.size + 1 < w'.heap.size := by omega); (try have hz2 : w.heap.size + 1 + 1 < w'.heap.size := by omega); (try have hz3 : w.heap.size + 1 + 1 + 1 < w'.heap.size := by omega); obtain ⟨hc, hf⟩ := bcell hb; clear hb))
          clear hr hp0 hcb
          go_loopg [] 0 (fun g wr => wr = _)
          case atStart => rfl
          case round =>
            subst hrel
            go_wp2_with fail
            go_ret2
            exact ⟨rfl, by (repeat' (first | exact Below.refl _ _ | assumption | (refine below_alloc ?_ _) | (refine Below.setCell ?_ ?_ _) | (refine Below.drew ?_) | (refine below_drewN ?_ _))) <;> (first | (simp; done) | (simp; omega) | omega)⟩
        · have P0 : 0 < pMan W := by have := pMan_ge W; omega
          have P1 := pMan_lt W
          have E0 := pExp_ge W
          have E1 := pExp_le W
          obtain ⟨PM, hPM⟩ : ∃ PM, pMan W = PM := ⟨_, rfl⟩
          obtain ⟨PE, hPE⟩ : ∃ PE, pExp W = PE := ⟨_, rfl⟩
          obtain ⟨PN, hPN⟩ : ∃ PN, pNeg W = PN := ⟨_, rfl⟩
          rw [hPM] at P0 P1
          rw [hPE] at E0 E1
          have HPM := Lib.hid hPM
          have HPE := Lib.hid hPE
          go_wp2_with (first | (go_at_call 21; (with_reducible refine (rfinite_any _ _ (by assumption) (by assumption)).mono ?_); rintro e w' ⟨rfl, rfl⟩) | (go_at_call 28; (with_reducible refine (rroundf_any _ _ _ _ (by assumption) (by assumption)).mono ?_); rintro e w' ⟨rfl, hb⟩; have hB := below_step (w0 := w) (by (repeat' (first | exact Below.refl _ _ | assumption | (refine below_alloc ?_ _) | (refine Below.setCell ?_ ?_ _) | (refine Below.drew ?_) | (refine below_drewN ?_ _))) <;> (first | (simp; done) | (simp; omega) | omega)) hb; have hs := hb.size; (try simp at hs); (try have hz0 : w.heap.size < w'.heap.size := by omega); (try have hz1 : w.heap.size + 1 < w'.heap.size := by omega); (try have hz2 : w.heap.size + 1 + 1 < w'.heap.size := by omega); (try have hz3 : w.heap.size + 1 + 1 + 1 < w'.heap.size := by omega); obtain ⟨hc, hf⟩ := bcell hb; clear hb) | (go_at_call 25; (with_reducible refine (rparts_any _ _ (by assumption) (by assumption) (by assumption)).mono ?_); rintro e w' ⟨rfl, hb⟩; have hB := below_step (w0 := w) (by (repeat' (first | exact Below.refl _ _ | assumption | (refine below_alloc ?_ _) | (refine Below.setCell ?_ ?_ _) | (refine Below.drew ?_) | (refine below_drewN ?_ _))) <;> (first | (simp; done) | (simp; omega) | omega)) hb; have hs := hb.size; (try simp at hs); (try have hz0 : w.heap.size < w'.heap.size := by omega); (try have hz1 : w.heap.size + 1 < w'.heap.size := by omega); (try have hz2 : w.heap.size + 1 + 1 < w'.heap.size := by omega); (try have hz3 : w.heap.size + 1 + 1 + 1 < w'.heap.size := by omega); obtain ⟨hc, hf⟩ := bcell hb; clear hb))
          have HP0 := Lib.hid P0
          have HP1 := Lib.hid P1
          clear hr hp0 hcb hPM hPE hPN P0
          go_loopg [] PM.toNat (fun g wr => ∃ (i : Nat) (M E : Int), wr = World.alloc _ (.cells #[.bool PN, .int .u64 M, .int .i64 E] 32) ∧ Hid (PM = M * 2 ^ i) ∧ Hid (E = PE + i) ∧ 0 < M ∧ M < 9007199254740992 ∧ g = M.toNat ∧ E ≤ 1100 ∧ -1074 ≤ E)
          case atStart => exact ⟨0, PM, PE, rfl, Lib.hid (by simp), Lib.hid (by simp), HP0.out, P1, rfl, by omega, by omega⟩
          case round =>
            obtain ⟨i, M, E, rfl, HM, HE, M0, M1, rfl, EU, EL⟩ := hrel
            have hi64 : i < 64 := two_pow_bound M i M0 (by rw [← HM.out]; omega)
            have hE2 : E ≤ 1050 := by have := HE.out; omega
            clear hi64 EU
            by_cases hev : M % 2 = 0
            · have HEV := Lib.hid hev
              have hevb2 : (M % 2 == 0) = true := by simpa using hev
              clear hev
              go_wp2_with fail
              go_roundg (M / 2).toNat
              case measure => have := HEV.out; omega
              case rel =>
                have hev := HEV.out
                exact ⟨i + 1, M / 2, E + 1, rfl, Lib.hid (by rw [HM.out, Int.pow_succ, Int.mul_comm (2 ^ i) 2, ← Int.mul_assoc]; congr 1; omega), Lib.hid (by rw [HE.out]; omega), by omega, by omega, rfl, by omega, by omega⟩
            · have hod := odd_done PM M i HP0.out (by have := HP1.out; omega) HM.out hev
              have hfin := hC.out M E (by rw [HPM.out]; exact hod.2.symm) (by rw [HPM.out, HPE.out, hod.1]; exact HE.out) hcls
              have HF := Lib.hid hfin
              have hevb2 : (M % 2 == 0) = false := by simpa using hev
              clear hev hod hfin
              by_cases h1 : M = x
              · by_cases h2 : E = y
                · have hb : b = true := by rw [← HF.out]; simp [h1, h2]
                  subst hb
                  have h1b : (M != x) = false := by simp [h1]
                  have h2b : (E != y) = false := by simp [h2]
                  clear h1 h2
                  go_wp2_with fail
                  go_ret2
                  exact ⟨rfl, by (repeat' (first | exact Below.refl _ _ | assumption | (refine below_alloc ?_ _) | (refine Below.setCell ?_ ?_ _) | (refine Below.drew ?_) | (refine below_drewN ?_ _))) <;> (first | (simp; done) | (simp; omega) | omega)⟩
                · have hb : b = false := by rw [← HF.out]; simp [h2]
                  subst hb
                  have h1b : (M != x) = false := by simp [h1]
                  have h2b : (E != y) = true := by simpa using h2
                  clear h1 h2
                  go_wp2_with fail
                  go_ret2
                  exact ⟨rfl, by (repeat' (first | exact Below.refl _ _ | assumption | (refine below_alloc ?_ _) | (refine Below.setCell ?_ ?_ _) | (refine Below.drew ?_) | (refine below_drewN ?_ _))) <;> (first | (simp; done) | (simp; omega) | omega)⟩
              · have hb : b = false := by rw [← HF.out]; simp [h1]
                subst hb
                have h1b : (M != x) = true := by simpa using h1
                clear h1
                go_wp2_with fail
                go_ret2
                exact ⟨rfl, by (repeat' (first | exact Below.refl _ _ | assumption | (refine below_alloc ?_ _) | (refine Below.setCell ?_ ?_ _) | (refine Below.drew ?_) | (refine below_drewN ?_ _))) <;> (first | (simp; done) | (simp; omega) | omega)⟩
      · have hcb : decide (classI W ≤ 3) = false := by simpa using hcls
        have hb : b = false := by rw [HB.out, hcb]; rfl
        subst hb
        clear hcls
        go_wp2_with (first | (go_at_call 21; (with_reducible refine (rfinite_any _ _ (by assumption) (by assumption)).mono ?_); rintro e w' ⟨rfl, rfl⟩) | (go_at_call 28; (with_reducible refine (rroundf_any _ _ _ _ (by assumption) (by assumption)).mono ?_); rintro e w' ⟨rfl, hb⟩; have hB := below_step (w0 := w) (by (repeat' (first | exact Below.refl _ _ | assumption | (refine below_alloc ?_ _) | (refine Below.setCell ?_ ?_ _) | (refine Below.drew ?_) | (refine below_drewN ?_ _))) <;> (first | (simp; done) | (simp; omega) | omega)) hb; have hs := hb.size; (try simp at hs); (try have hz0 : w.heap.size < w'.heap.size := by omega); (try have hz1 : w.heap.size + 1 < w'.heap.size := by omega); (try have hz2 : w.heap.size + 1 + 1 < w'.heap.size := by omega); (try have hz3 : w.heap.size + 1 + 1 + 1 < w'.heap.size := by omega); obtain ⟨hc, hf⟩ := bcell hb; clear hb))
        go_ret2
        exact ⟨rfl, by (repeat' (first | exact Below.refl _ _ | assumption | (refine below_alloc ?_ _) | (refine Below.setCell ?_ ?_ _) | (refine Below.drew ?_) | (refine below_drewN ?_ _))) <;> (first | (simp; done) | (simp; omega) | omega)⟩

end Go.Proofs.YtaeognfpmhfmgaaDoor
