/-
  math/bits.Div64 at a divisor of 64 bits.
-/
import Derived.Test.YtjfjkabmpiebpaaDoorNatN
set_option linter.unusedSimpArgs false
set_option linter.unusedVariables false
namespace Go.Plumb
/-- The half digit of Knuth's division: a guess that is not too small, and its rest. -/
structure Half (y1 y0 u2 u1 q r : Nat) : Prop where
  val : q * y1 + r = u2
  ge : (u2 * 4294967296 + u1) / (y1 * 4294967296 + y0) ≤ q
  le : q ≤ 4294967297
theorem half_key (y1 y0 u2 u1 q r : Nat) (h : q * y1 + r = u2) : q * (y1 * 4294967296 + y0) + r * 4294967296 = u2 * 4294967296 + q * y0 := by
  subst h
  rw [Nat.mul_add, Nat.add_mul, Nat.mul_assoc]
  omega
theorem half_down (y1 y0 u2 u1 q r : Nat) (h : Half y1 y0 u2 u1 q r) (hy : 0 < y1) (hu : u2 < y1 * 4294967296 + y0) (hu1 : u1 < 4294967296) (hc : 4294967296 ≤ q ∨ 4294967296 * r + u1 < q * y0) :
    1 ≤ q ∧ Half y1 y0 u2 u1 (q - 1) (r + y1) ∧ q - 1 ≤ 4294967296 := by
  obtain ⟨hv, hge, hle⟩ := h
  have hY : 0 < y1 * 4294967296 + y0 := by omega
  have hQ : (u2 * 4294967296 + u1) / (y1 * 4294967296 + y0) < q := by
    rw [Nat.div_lt_iff_lt_mul hY]
    rcases hc with hc | hc
    · have h1 := Nat.mul_le_mul_right (y1 * 4294967296 + y0) hc
      clear hge
      omega
    · have := half_key y1 y0 u2 u1 q r hv
      clear hge
      omega
  have h1 : 1 ≤ q := Nat.lt_of_le_of_lt (Nat.zero_le _) hQ
  refine ⟨h1, ⟨?_, Nat.le_sub_one_of_lt hQ, by omega⟩, by omega⟩
  clear hQ hge
  obtain ⟨p, rfl⟩ : ∃ p, q = p + 1 := ⟨q - 1, by omega⟩
  rw [Nat.add_sub_cancel, ← hv, Nat.add_mul]
  omega
theorem half_stop (y1 y0 u2 u1 q r : Nat) (h : Half y1 y0 u2 u1 q r) (hy : 0 < y1) (hc : q * y0 ≤ 4294967296 * r + u1) : q = (u2 * 4294967296 + u1) / (y1 * 4294967296 + y0) := by
  obtain ⟨hv, hge, hle⟩ := h
  have hY : 0 < y1 * 4294967296 + y0 := by omega
  have : q ≤ (u2 * 4294967296 + u1) / (y1 * 4294967296 + y0) := by
    rw [Nat.le_div_iff_mul_le hY]
    have := half_key y1 y0 u2 u1 q r hv
    clear hge
    omega
  exact Nat.le_antisymm this hge
theorem half_break (y1 y0 u2 u1 q r : Nat) (h : Half y1 y0 u2 u1 q r) (hy : 0 < y1) (hy0 : y0 < 4294967296) (hq : q ≤ 4294967296) (hr : 4294967296 ≤ r) : q = (u2 * 4294967296 + u1) / (y1 * 4294967296 + y0) := by
  refine half_stop y1 y0 u2 u1 q r h hy ?_
  have h1 := Nat.mul_le_mul hq (show y0 ≤ 4294967295 by omega)
  generalize q * y0 = P at *
  omega
theorem half_start (y1 y0 u2 u1 : Nat) (hy : 2147483648 ≤ y1) (hy0 : y0 < 4294967296) (hu : u2 < y1 * 4294967296 + y0) (hu1 : u1 < 4294967296) : Half y1 y0 u2 u1 (u2 / y1) (u2 % y1) := by
  refine ⟨by rw [Nat.mul_comm]; exact Nat.div_add_mod u2 y1, ?_, ?_⟩
  · rw [Nat.le_div_iff_mul_le (by omega)]
    have h1 := Nat.div_mul_le_self (u2 * 4294967296 + u1) (y1 * 4294967296 + y0)
    generalize (u2 * 4294967296 + u1) / (y1 * 4294967296 + y0) = q at *
    rw [Nat.mul_add, ← Nat.mul_assoc] at h1
    generalize q * y1 = p at *
    omega
  · have : u2 / y1 < 4294967298 := by
      rw [Nat.div_lt_iff_lt_mul (by omega)]
      omega
    omega
/-- Two half digits make the digit. -/
theorem halves_make (hi lo y u1 u0 q1 q0 r1 : Nat) (hlo : lo = u1 * 4294967296 + u0) (hu0 : u0 < 4294967296) (h1 : q1 = (hi * 4294967296 + u1) / y) (hr : r1 = (hi * 4294967296 + u1) % y) (h0 : q0 = (r1 * 4294967296 + u0) / y) :
    q1 * 4294967296 + q0 = (hi * 18446744073709551616 + lo) / y ∧ (r1 * 4294967296 + u0) % y = (hi * 18446744073709551616 + lo) % y := by
  by_cases hy : y = 0
  · subst hy
    simp only [Nat.div_zero, Nat.mod_zero] at *
    subst h1 hr h0 hlo
    omega
  · have e1 := Nat.div_add_mod (hi * 4294967296 + u1) y
    have e0 := Nat.div_add_mod (r1 * 4294967296 + u0) y
    have hlt := Nat.mod_lt (r1 * 4294967296 + u0) (Nat.pos_of_ne_zero hy)
    rw [← h1, ← hr] at e1
    rw [← h0] at e0
    have key := quot_unique (hi * 18446744073709551616 + lo) y (q1 * 4294967296 + q0) ((r1 * 4294967296 + u0) % y) (by
      rw [Nat.mul_comm _ y, Nat.mul_add, ← Nat.mul_assoc]
      omega) hlt
    exact ⟨key.1, key.2⟩
theorem div64_mid (hi u1 y p r1 : Nat) (hp : p = (hi * 4294967296 + u1) / y) (hr : (hi * 4294967296 + u1) % y = r1) (hr1 : r1 < 18446744073709551616) :
    IntKind.u64.wrap (IntKind.u64.wrap (IntKind.u64.wrap ((hi : Int) * 4294967296) + (u1 : Int)) - IntKind.u64.wrap ((p : Int) * (y : Int))) = (r1 : Int) := by
  have e := Nat.div_add_mod (hi * 4294967296 + u1) y
  rw [← hp, hr, Nat.mul_comm] at e
  have ep : (p : Int) * (y : Int) = ((p * y : Nat) : Int) := by simp
  rw [ep]
  generalize p * y = P at *
  simp only [IntKind.wrap_u64]
  omega
theorem div64_end (hi lo y u1 u0 p q2 r1 : Nat) (hlo : lo = u1 * 4294967296 + u0) (hu0 : u0 < 4294967296) (hp : p = (hi * 4294967296 + u1) / y) (hr : r1 = (hi * 4294967296 + u1) % y) (hq : q2 = (r1 * 4294967296 + u0) / y) (hyl : y < 18446744073709551616) (hlt : hi < y) (hll : lo < 18446744073709551616) :
    IntKind.u64.wrap (IntKind.u64.wrap ((p : Int) * 4294967296) + (q2 : Int)) = (((hi * 18446744073709551616 + lo) / y : Nat) : Int) ∧
      IntKind.u64.wrap (IntKind.u64.wrap (IntKind.u64.wrap ((r1 : Int) * 4294967296) + (u0 : Int)) - IntKind.u64.wrap ((q2 : Int) * (y : Int))) = (((hi * 18446744073709551616 + lo) % y : Nat) : Int) := by
  obtain ⟨k1, k2⟩ := halves_make hi lo y u1 u0 p q2 r1 hlo hu0 hp hr hq
  have hm : (hi * 18446744073709551616 + lo) % y < y := Nat.mod_lt _ (by omega)
  have hd : (hi * 18446744073709551616 + lo) / y < 18446744073709551616 := by
    rw [Nat.div_lt_iff_lt_mul (by omega)]
    have := Nat.mul_le_mul_left 18446744073709551616 (show hi + 1 ≤ y from hlt)
    rw [Nat.mul_add] at this
    omega
  have e2 := div64_mid r1 u0 y q2 ((r1 * 4294967296 + u0) % y) hq rfl (Nat.lt_trans (Nat.mod_lt _ (by omega)) hyl)
  rw [k2] at e2
  refine ⟨?_, e2⟩
  rw [← k1] at hd ⊢
  simp only [IntKind.wrap_u64]
  omega
end Go.Plumb
namespace Go.Proofs.YtjfjkabmpiebpaaDoor
open Go.RowKit Go.Plumb

theorem ret_tup2 {k k' : IntKind} {a b c d : Int} (h1 : a = b) (h2 : c = d) : Ending.returned (.tuple #[.int k a, .int k' c]) = .returned (.tuple #[.int k b, .int k' d]) := by rw [h1, h2]
theorem div64_zero (lo y : Nat) (w : World) (hl : lo < 18446744073709551616) (hy : y < 18446744073709551616) (hy0 : 0 < y) :
    Calls Tryd.prog 74 #[.int .u64 0, .int .u64 (lo : Int), .int .u64 (y : Int)] w fun e w' => e = .returned (.tuple #[.int .u64 ((lo / y : Nat) : Int), .int .u64 ((lo % y : Nat) : Int)]) ∧ Below w.heap.size w w' := by
  have z1 : ((y : Int) == 0) = false := by simp; omega
  go_enter Tryd.func74, Tryd.ntmps74
  go_wp2_with fail
  have hw1 : IntKind.u64.wrap ((lo : Int) / (y : Int)) = ((lo / y : Nat) : Int) := by
    have e : (lo : Int) / (y : Int) = ((lo / y : Nat) : Int) := by simp
    have h : lo / y ≤ lo := Nat.div_le_self _ _
    rw [e, IntKind.wrap_u64]
    generalize lo / y = q at *
    omega
  have hw2 : (lo : Int) % (y : Int) = ((lo % y : Nat) : Int) := by simp
  go_quiet (fail)
  go_wp2_with fail
  go_ret2
  exact ⟨ret_tup2 (by simp) hw2, below_drewN (Below.refl _ _) _⟩
set_option maxHeartbeats 2000000 in
theorem div64_core (hi lo y y1 y0 : Nat) (w : World) (hhi : 0 < hi) (hlt : hi < y) (hl : lo < 18446744073709551616) (hy : 9223372036854775808 ≤ y) (hyl : y < 18446744073709551616) (e1 : y / 4294967296 = y1) (e0 : y % 4294967296 = y0) :
    Calls Tryd.prog 74 #[.int .u64 (hi : Int), .int .u64 (lo : Int), .int .u64 (y : Int)] w fun e w' => e = .returned (.tuple #[.int .u64 (((hi * 18446744073709551616 + lo) / y : Nat) : Int), .int .u64 (((hi * 18446744073709551616 + lo) % y : Nat) : Int)]) ∧ Below w.heap.size w w' := by
  have z1 : ((y : Int) == 0) = false := by simp; omega
  have z2 : ((hi : Int) == 0) = false := by simp; omega
  have hlen : lenI (y : Int) = 64 := by
    unfold lenI
    rw [Int.toNat_natCast, lenN_eq (k := 63) (by simpa using hy) (by simpa using hyl)]; rfl
  have hlz : ∀ w', Calls Tryd.prog 69 #[.int .u64 (y : Int)] w' fun e w'' => e = .returned (.int .i64 0) ∧ w' = w'' := fun w' => by
    have := lz64_any (y : Int) w' (by omega) (by omega)
    rw [hlen] at this
    exact this
  have m1 : bits .and .u64 (y : Int) 4294967295 = (y0 : Int) := by
    rw [show (4294967295 : Int) = 2 ^ 32 - 1 by decide, and_mask 32 (by decide) (by omega) (by omega)]
    omega
  obtain ⟨u1, hu1⟩ : ∃ u1, lo / 4294967296 = u1 := ⟨_, rfl⟩
  obtain ⟨u0, hu0⟩ : ∃ u0, lo % 4294967296 = u0 := ⟨_, rfl⟩
  have m2 : bits .and .u64 (lo : Int) 4294967295 = (u0 : Int) := by
    rw [show (4294967295 : Int) = 2 ^ 32 - 1 by decide, and_mask 32 (by decide) (by omega) (by omega)]
    omega
  have d1 : (y : Int) / 4294967296 = (y1 : Int) := by omega
  have d2 : (lo : Int) / 4294967296 = (u1 : Int) := by omega
  have m3 : bits .or .u64 (hi : Int) ((lo : Int) / 18446744073709551616) = (hi : Int) := by
    have e : (lo : Int) / 18446744073709551616 = 0 := by omega
    rw [e]
    have := or_join 0 (x := (hi : Int)) (y := 0) (by omega) (by simp [Int.emod_one]) (by omega) (Int.le_refl _) (by decide) (by decide)
    rw [this]; simp
  have HS := Lib.hid (half_start y1 y0 hi u1 (by omega) (by omega) (by omega) (by omega))
  obtain ⟨Q, hQ⟩ : ∃ Q, hi / y1 = Q := ⟨_, rfl⟩
  obtain ⟨R, hR⟩ : ∃ R, hi % y1 = R := ⟨_, rfl⟩
  have hRb : R < y1 := by rw [← hR]; exact Nat.mod_lt _ (by omega)
  rw [hQ, hR] at HS
  have d3 : (hi : Int) / (y1 : Int) = (Q : Int) := by rw [← hQ]; simp
  have hQb := HS.out.le
  have hQv := HS.out.val
  obtain ⟨T, hT⟩ : ∃ T, Q * y1 = T := ⟨_, rfl⟩
  rw [hT] at hQv
  have d4 : IntKind.u64.wrap ((Q : Int) * (y1 : Int)) = (T : Int) := by rw [IntKind.wrap_u64, ← hT]; simp; omega
  have y1b : 2147483648 ≤ y1 ∧ y1 < 4294967296 := by omega
  obtain ⟨y1a, y1c⟩ := y1b
  have y0c : y0 < 4294967296 := by omega
  have u1c : u1 < 4294967296 := by omega
  have u0c : u0 < 4294967296 := by omega
  have E0 := Lib.hid (show y = y1 * 4294967296 + y0 by omega)
  have E1 := Lib.hid (show lo = u1 * 4294967296 + u0 by omega)
  clear hQ hR hT hu1 hu0 e1 e0
  go_enter Tryd.func74, Tryd.ntmps74
  go_wp2_with (go_at_call 69; (with_reducible refine (hlz _).mono ?_); rintro e w' ⟨rfl, rfl⟩)
  go_loopw [15, 16] (fun u v wr => ∃ q r : Nat, u = .int .u64 (q : Int) ∧ v = .int .u64 (r : Int) ∧ q ≤ 4294967297 ∧ r < 4294967296 ∧ Hid (Half y1 y0 hi u1 q r) ∧ w = wr) (fun u _ _ => (intOf u).toNat)
  case atStart => exact ⟨Q, R, rfl, by go_num, by omega, by omega, HS, rfl⟩
  case round =>
    obtain ⟨q, r, rfl, rfl, hq, hr, hH, rfl⟩ := hrel
    have hPb := Nat.mul_le_mul hq (show y0 ≤ 4294967295 by omega)
    obtain ⟨P, hP⟩ : ∃ P, q * y0 = P := ⟨_, rfl⟩
    rw [hP] at hPb
    have dP : IntKind.u64.wrap ((q : Int) * (y0 : Int)) = (P : Int) := by rw [IntKind.wrap_u64, ← hP]; simp; omega
    have HP := Lib.hid hP
    clear hP
    by_cases hA : 4294967296 ≤ q
    · obtain ⟨w1, hD, w2⟩ := half_down y1 y0 hi u1 q r hH.out (by omega) (by rw [← E0.out]; exact hlt) u1c (.inl hA)
      obtain ⟨p, hqp⟩ : ∃ p, q = p + 1 := ⟨q - 1, by omega⟩
      have hqi : (q : Int) - 1 = (p : Int) := by omega
      rw [show q - 1 = p by omega] at hD w2
      have HD := Lib.hid hD
      clear hD hqp w1
      have hC1 : decide ((4294967296 : Int) ≤ (q : Int)) = true := by simp; omega
      by_cases hE : 4294967296 ≤ r + y1
      · have hE1 : (4294967296 : Int) ≤ (r : Int) + (y1 : Int) := by omega
        have HQ1 : Hid (p = (hi * 4294967296 + u1) / y) := Lib.hid (by rw [E0.out]; exact half_break y1 y0 hi u1 p (r + y1) HD.out (by omega) y0c w2 hE)
        obtain ⟨r1, hr1⟩ : ∃ r1, (hi * 4294967296 + u1) % y = r1 := ⟨_, rfl⟩
        have hr1y : r1 < y := by rw [← hr1]; exact Nat.mod_lt _ (by omega)
        have e21 := div64_mid hi u1 y p r1 HQ1.out hr1 (by omega)
        have Hr1 := Lib.hid hr1.symm
        have HS2 := Lib.hid (half_start y1 y0 r1 u0 y1a y0c (by have := E0.out; omega) u0c)
        obtain ⟨Q2, hQ2⟩ : ∃ Q, r1 / y1 = Q := ⟨_, rfl⟩
        obtain ⟨R2, hR2⟩ : ∃ R, r1 % y1 = R := ⟨_, rfl⟩
        have hRb2 : R2 < y1 := by rw [← hR2]; exact Nat.mod_lt _ (by omega)
        rw [hQ2, hR2] at HS2
        have d32 : (r1 : Int) / (y1 : Int) = (Q2 : Int) := by rw [← hQ2]; simp
        have hQb2 := HS2.out.le
        have hQv2 := HS2.out.val
        obtain ⟨T2, hT2⟩ : ∃ T, Q2 * y1 = T := ⟨_, rfl⟩
        rw [hT2] at hQv2
        have d42 : IntKind.u64.wrap ((Q2 : Int) * (y1 : Int)) = (T2 : Int) := by rw [IntKind.wrap_u64, ← hT2]; simp; omega
        clear hQ2 hR2 hT2 hr1
        go_wp2_with fail
        go_loopw [18, 16] (fun u v wr => ∃ q r : Nat, u = .int .u64 (q : Int) ∧ v = .int .u64 (r : Int) ∧ q ≤ 4294967297 ∧ r < 4294967296 ∧ Hid (Half y1 y0 r1 u0 q r) ∧ w = wr) (fun u _ _ => (intOf u).toNat)
        case atStart => exact ⟨Q2, R2, rfl, by go_num, by omega, by omega, HS2, rfl⟩
        case round =>
          obtain ⟨q, r, rfl, rfl, hq, hr, hH, rfl⟩ := hrel
          have hPb := Nat.mul_le_mul hq (show y0 ≤ 4294967295 by omega)
          obtain ⟨P, hP⟩ : ∃ P, q * y0 = P := ⟨_, rfl⟩
          rw [hP] at hPb
          have dP : IntKind.u64.wrap ((q : Int) * (y0 : Int)) = (P : Int) := by rw [IntKind.wrap_u64, ← hP]; simp; omega
          have HP := Lib.hid hP
          clear hP
          by_cases hA : 4294967296 ≤ q
          · obtain ⟨w1, hD, w2⟩ := half_down y1 y0 r1 u0 q r hH.out (by omega) (by rw [← E0.out]; exact hr1y) u0c (.inl hA)
            obtain ⟨q2, hqp⟩ : ∃ p, q = p + 1 := ⟨q - 1, by omega⟩
            have hqi : (q : Int) - 1 = (q2 : Int) := by omega
            rw [show q - 1 = q2 by omega] at hD w2
            have HD := Lib.hid hD
            clear hD hqp w1
            have hC1 : decide ((4294967296 : Int) ≤ (q : Int)) = true := by simp; omega
            by_cases hE : 4294967296 ≤ r + y1
            · have hE1 : (4294967296 : Int) ≤ (r : Int) + (y1 : Int) := by omega
              have hF : q2 = (r1 * 4294967296 + u0) / (y1 * 4294967296 + y0) := half_break y1 y0 r1 u0 q2 (r + y1) HD.out (by omega) y0c w2 hE
              rw [← E0.out] at hF
              obtain ⟨f1, f2⟩ := div64_end hi lo y u1 u0 p q2 r1 E1.out u0c HQ1.out Hr1.out hF hyl hlt hl
              have HF1 := Lib.hid f1
              have HF2 := Lib.hid f2
              clear hF f1 f2
              go_wp2_with fail
              go_ret2
              exact ⟨ret_tup2 (by first | exact HF1.out | (have h := HF1.out; simp only [IntKind.wrap_u64] at h ⊢; omega)) (by first | exact HF2.out | (have h := HF2.out; simp only [IntKind.wrap_u64] at h ⊢; omega)), by first | exact Below.refl _ _ | exact (Below.refl _ w).drew | exact below_drewN (Below.refl _ _) _⟩
            · have hE1 : ¬ (4294967296 : Int) ≤ (r : Int) + (y1 : Int) := by omega
              go_wp2_with fail
              go_roundw
              case rel => exact ⟨q2, r + y1, by go_num, by go_num, by omega, by omega, HD, trivial⟩
              case measure => simp [intOf]; omega
          · by_cases hB : 4294967296 * r + u0 < P
            · obtain ⟨w1, hD, w2⟩ := half_down y1 y0 r1 u0 q r hH.out (by omega) (by rw [← E0.out]; exact hr1y) u0c (.inr (by rw [HP.out]; exact hB))
              obtain ⟨q2, hqp⟩ : ∃ p, q = p + 1 := ⟨q - 1, by omega⟩
              have hqi : (q : Int) - 1 = (q2 : Int) := by omega
              rw [show q - 1 = q2 by omega] at hD w2
              have HD := Lib.hid hD
              clear hD hqp w1
              have hC1 : decide ((4294967296 : Int) ≤ (q : Int)) = false := by simp; omega
              by_cases hE : 4294967296 ≤ r + y1
              · have hE1 : (4294967296 : Int) ≤ (r : Int) + (y1 : Int) := by omega
                have hF : q2 = (r1 * 4294967296 + u0) / (y1 * 4294967296 + y0) := half_break y1 y0 r1 u0 q2 (r + y1) HD.out (by omega) y0c w2 hE
                rw [← E0.out] at hF
                obtain ⟨f1, f2⟩ := div64_end hi lo y u1 u0 p q2 r1 E1.out u0c HQ1.out Hr1.out hF hyl hlt hl
                have HF1 := Lib.hid f1
                have HF2 := Lib.hid f2
                clear hF f1 f2
                go_wp2_with fail
                go_ret2
                exact ⟨ret_tup2 (by first | exact HF1.out | (have h := HF1.out; simp only [IntKind.wrap_u64] at h ⊢; omega)) (by first | exact HF2.out | (have h := HF2.out; simp only [IntKind.wrap_u64] at h ⊢; omega)), by first | exact Below.refl _ _ | exact (Below.refl _ w).drew | exact below_drewN (Below.refl _ _) _⟩
              · have hE1 : ¬ (4294967296 : Int) ≤ (r : Int) + (y1 : Int) := by omega
                go_wp2_with fail
                go_roundw
                case rel => exact ⟨q2, r + y1, by go_num, by go_num, by omega, by omega, HD, trivial⟩
                case measure => simp [intOf]; omega
            · have hC1 : decide ((4294967296 : Int) ≤ (q : Int)) = false := by simp; omega
              obtain ⟨q2, rfl⟩ : ∃ q2, q2 = q := ⟨q, rfl⟩
              have hF : q2 = (r1 * 4294967296 + u0) / (y1 * 4294967296 + y0) := half_stop y1 y0 r1 u0 q2 r hH.out (by omega) (by rw [HP.out]; omega)
              rw [← E0.out] at hF
              obtain ⟨f1, f2⟩ := div64_end hi lo y u1 u0 p q2 r1 E1.out u0c HQ1.out Hr1.out hF hyl hlt hl
              have HF1 := Lib.hid f1
              have HF2 := Lib.hid f2
              clear hF f1 f2
              go_wp2_with fail
              go_ret2
              exact ⟨ret_tup2 (by first | exact HF1.out | (have h := HF1.out; simp only [IntKind.wrap_u64] at h ⊢; omega)) (by first | exact HF2.out | (have h := HF2.out; simp only [IntKind.wrap_u64] at h ⊢; omega)), by first | exact Below.refl _ _ | exact (Below.refl _ w).drew | exact below_drewN (Below.refl _ _) _⟩
      · have hE1 : ¬ (4294967296 : Int) ≤ (r : Int) + (y1 : Int) := by omega
        go_wp2_with fail
        go_roundw
        case rel => exact ⟨p, r + y1, by go_num, by go_num, by omega, by omega, HD, trivial⟩
        case measure => simp [intOf]; omega
    · by_cases hB : 4294967296 * r + u1 < P
      · obtain ⟨w1, hD, w2⟩ := half_down y1 y0 hi u1 q r hH.out (by omega) (by rw [← E0.out]; exact hlt) u1c (.inr (by rw [HP.out]; exact hB))
        obtain ⟨p, hqp⟩ : ∃ p, q = p + 1 := ⟨q - 1, by omega⟩
        have hqi : (q : Int) - 1 = (p : Int) := by omega
        rw [show q - 1 = p by omega] at hD w2
        have HD := Lib.hid hD
        clear hD hqp w1
        have hC1 : decide ((4294967296 : Int) ≤ (q : Int)) = false := by simp; omega
        by_cases hE : 4294967296 ≤ r + y1
        · have hE1 : (4294967296 : Int) ≤ (r : Int) + (y1 : Int) := by omega
          have HQ1 : Hid (p = (hi * 4294967296 + u1) / y) := Lib.hid (by rw [E0.out]; exact half_break y1 y0 hi u1 p (r + y1) HD.out (by omega) y0c w2 hE)
          obtain ⟨r1, hr1⟩ : ∃ r1, (hi * 4294967296 + u1) % y = r1 := ⟨_, rfl⟩
          have hr1y : r1 < y := by rw [← hr1]; exact Nat.mod_lt _ (by omega)
          have e21 := div64_mid hi u1 y p r1 HQ1.out hr1 (by omega)
          have Hr1 := Lib.hid hr1.symm
          have HS2 := Lib.hid (half_start y1 y0 r1 u0 y1a y0c (by have := E0.out; omega) u0c)
          obtain ⟨Q2, hQ2⟩ : ∃ Q, r1 / y1 = Q := ⟨_, rfl⟩
          obtain ⟨R2, hR2⟩ : ∃ R, r1 % y1 = R := ⟨_, rfl⟩
          have hRb2 : R2 < y1 := by rw [← hR2]; exact Nat.mod_lt _ (by omega)
          rw [hQ2, hR2] at HS2
          have d32 : (r1 : Int) / (y1 : Int) = (Q2 : Int) := by rw [← hQ2]; simp
          have hQb2 := HS2.out.le
          have hQv2 := HS2.out.val
          obtain ⟨T2, hT2⟩ : ∃ T, Q2 * y1 = T := ⟨_, rfl⟩
          rw [hT2] at hQv2
          have d42 : IntKind.u64.wrap ((Q2 : Int) * (y1 : Int)) = (T2 : Int) := by rw [IntKind.wrap_u64, ← hT2]; simp; omega
          clear hQ2 hR2 hT2 hr1
          go_wp2_with fail
          go_loopw [18, 16] (fun u v wr => ∃ q r : Nat, u = .int .u64 (q : Int) ∧ v = .int .u64 (r : Int) ∧ q ≤ 4294967297 ∧ r < 4294967296 ∧ Hid (Half y1 y0 r1 u0 q r) ∧ w = wr) (fun u _ _ => (intOf u).toNat)
          case atStart => exact ⟨Q2, R2, rfl, by go_num, by omega, by omega, HS2, rfl⟩
          case round =>
            obtain ⟨q, r, rfl, rfl, hq, hr, hH, rfl⟩ := hrel
            have hPb := Nat.mul_le_mul hq (show y0 ≤ 4294967295 by omega)
            obtain ⟨P, hP⟩ : ∃ P, q * y0 = P := ⟨_, rfl⟩
            rw [hP] at hPb
            have dP : IntKind.u64.wrap ((q : Int) * (y0 : Int)) = (P : Int) := by rw [IntKind.wrap_u64, ← hP]; simp; omega
            have HP := Lib.hid hP
            clear hP
            by_cases hA : 4294967296 ≤ q
            · obtain ⟨w1, hD, w2⟩ := half_down y1 y0 r1 u0 q r hH.out (by omega) (by rw [← E0.out]; exact hr1y) u0c (.inl hA)
              obtain ⟨q2, hqp⟩ : ∃ p, q = p + 1 := ⟨q - 1, by omega⟩
              have hqi : (q : Int) - 1 = (q2 : Int) := by omega
              rw [show q - 1 = q2 by omega] at hD w2
              have HD := Lib.hid hD
              clear hD hqp w1
              have hC1 : decide ((4294967296 : Int) ≤ (q : Int)) = true := by simp; omega
              by_cases hE : 4294967296 ≤ r + y1
              · have hE1 : (4294967296 : Int) ≤ (r : Int) + (y1 : Int) := by omega
                have hF : q2 = (r1 * 4294967296 + u0) / (y1 * 4294967296 + y0) := half_break y1 y0 r1 u0 q2 (r + y1) HD.out (by omega) y0c w2 hE
                rw [← E0.out] at hF
                obtain ⟨f1, f2⟩ := div64_end hi lo y u1 u0 p q2 r1 E1.out u0c HQ1.out Hr1.out hF hyl hlt hl
                have HF1 := Lib.hid f1
                have HF2 := Lib.hid f2
                clear hF f1 f2
                go_wp2_with fail
                go_ret2
                exact ⟨ret_tup2 (by first | exact HF1.out | (have h := HF1.out; simp only [IntKind.wrap_u64] at h ⊢; omega)) (by first | exact HF2.out | (have h := HF2.out; simp only [IntKind.wrap_u64] at h ⊢; omega)), by first | exact Below.refl _ _ | exact (Below.refl _ w).drew | exact below_drewN (Below.refl _ _) _⟩
              · have hE1 : ¬ (4294967296 : Int) ≤ (r : Int) + (y1 : Int) := by omega
                go_wp2_with fail
                go_roundw
                case rel => exact ⟨q2, r + y1, by go_num, by go_num, by omega, by omega, HD, trivial⟩
                case measure => simp [intOf]; omega
            · by_cases hB : 4294967296 * r + u0 < P
              · obtain ⟨w1, hD, w2⟩ := half_down y1 y0 r1 u0 q r hH.out (by omega) (by rw [← E0.out]; exact hr1y) u0c (.inr (by rw [HP.out]; exact hB))
                obtain ⟨q2, hqp⟩ : ∃ p, q = p + 1 := ⟨q - 1, by omega⟩
                have hqi : (q : Int) - 1 = (q2 : Int) := by omega
                rw [show q - 1 = q2 by omega] at hD w2
                have HD := Lib.hid hD
                clear hD hqp w1
                have hC1 : decide ((4294967296 : Int) ≤ (q : Int)) = false := by simp; omega
                by_cases hE : 4294967296 ≤ r + y1
                · have hE1 : (4294967296 : Int) ≤ (r : Int) + (y1 : Int) := by omega
                  have hF : q2 = (r1 * 4294967296 + u0) / (y1 * 4294967296 + y0) := half_break y1 y0 r1 u0 q2 (r + y1) HD.out (by omega) y0c w2 hE
                  rw [← E0.out] at hF
                  obtain ⟨f1, f2⟩ := div64_end hi lo y u1 u0 p q2 r1 E1.out u0c HQ1.out Hr1.out hF hyl hlt hl
                  have HF1 := Lib.hid f1
                  have HF2 := Lib.hid f2
                  clear hF f1 f2
                  go_wp2_with fail
                  go_ret2
                  exact ⟨ret_tup2 (by first | exact HF1.out | (have h := HF1.out; simp only [IntKind.wrap_u64] at h ⊢; omega)) (by first | exact HF2.out | (have h := HF2.out; simp only [IntKind.wrap_u64] at h ⊢; omega)), by first | exact Below.refl _ _ | exact (Below.refl _ w).drew | exact below_drewN (Below.refl _ _) _⟩
                · have hE1 : ¬ (4294967296 : Int) ≤ (r : Int) + (y1 : Int) := by omega
                  go_wp2_with fail
                  go_roundw
                  case rel => exact ⟨q2, r + y1, by go_num, by go_num, by omega, by omega, HD, trivial⟩
                  case measure => simp [intOf]; omega
              · have hC1 : decide ((4294967296 : Int) ≤ (q : Int)) = false := by simp; omega
                obtain ⟨q2, rfl⟩ : ∃ q2, q2 = q := ⟨q, rfl⟩
                have hF : q2 = (r1 * 4294967296 + u0) / (y1 * 4294967296 + y0) := half_stop y1 y0 r1 u0 q2 r hH.out (by omega) (by rw [HP.out]; omega)
                rw [← E0.out] at hF
                obtain ⟨f1, f2⟩ := div64_end hi lo y u1 u0 p q2 r1 E1.out u0c HQ1.out Hr1.out hF hyl hlt hl
                have HF1 := Lib.hid f1
                have HF2 := Lib.hid f2
                clear hF f1 f2
                go_wp2_with fail
                go_ret2
                exact ⟨ret_tup2 (by first | exact HF1.out | (have h := HF1.out; simp only [IntKind.wrap_u64] at h ⊢; omega)) (by first | exact HF2.out | (have h := HF2.out; simp only [IntKind.wrap_u64] at h ⊢; omega)), by first | exact Below.refl _ _ | exact (Below.refl _ w).drew | exact below_drewN (Below.refl _ _) _⟩
        · have hE1 : ¬ (4294967296 : Int) ≤ (r : Int) + (y1 : Int) := by omega
          go_wp2_with fail
          go_roundw
          case rel => exact ⟨p, r + y1, by go_num, by go_num, by omega, by omega, HD, trivial⟩
          case measure => simp [intOf]; omega
      · have hC1 : decide ((4294967296 : Int) ≤ (q : Int)) = false := by simp; omega
        obtain ⟨p, rfl⟩ : ∃ p, p = q := ⟨q, rfl⟩
        have HQ1 : Hid (p = (hi * 4294967296 + u1) / y) := Lib.hid (by rw [E0.out]; exact half_stop y1 y0 hi u1 p r hH.out (by omega) (by rw [HP.out]; omega))
        obtain ⟨r1, hr1⟩ : ∃ r1, (hi * 4294967296 + u1) % y = r1 := ⟨_, rfl⟩
        have hr1y : r1 < y := by rw [← hr1]; exact Nat.mod_lt _ (by omega)
        have e21 := div64_mid hi u1 y p r1 HQ1.out hr1 (by omega)
        have Hr1 := Lib.hid hr1.symm
        have HS2 := Lib.hid (half_start y1 y0 r1 u0 y1a y0c (by have := E0.out; omega) u0c)
        obtain ⟨Q2, hQ2⟩ : ∃ Q, r1 / y1 = Q := ⟨_, rfl⟩
        obtain ⟨R2, hR2⟩ : ∃ R, r1 % y1 = R := ⟨_, rfl⟩
        have hRb2 : R2 < y1 := by rw [← hR2]; exact Nat.mod_lt _ (by omega)
        rw [hQ2, hR2] at HS2
        have d32 : (r1 : Int) / (y1 : Int) = (Q2 : Int) := by rw [← hQ2]; simp
        have hQb2 := HS2.out.le
        have hQv2 := HS2.out.val
        obtain ⟨T2, hT2⟩ : ∃ T, Q2 * y1 = T := ⟨_, rfl⟩
        rw [hT2] at hQv2
        have d42 : IntKind.u64.wrap ((Q2 : Int) * (y1 : Int)) = (T2 : Int) := by rw [IntKind.wrap_u64, ← hT2]; simp; omega
        clear hQ2 hR2 hT2 hr1
        go_wp2_with fail
        go_loopw [18, 16] (fun u v wr => ∃ q r : Nat, u = .int .u64 (q : Int) ∧ v = .int .u64 (r : Int) ∧ q ≤ 4294967297 ∧ r < 4294967296 ∧ Hid (Half y1 y0 r1 u0 q r) ∧ w = wr) (fun u _ _ => (intOf u).toNat)
        case atStart => exact ⟨Q2, R2, rfl, by go_num, by omega, by omega, HS2, rfl⟩
        case round =>
          obtain ⟨q, r, rfl, rfl, hq, hr, hH, rfl⟩ := hrel
          have hPb := Nat.mul_le_mul hq (show y0 ≤ 4294967295 by omega)
          obtain ⟨P, hP⟩ : ∃ P, q * y0 = P := ⟨_, rfl⟩
          rw [hP] at hPb
          have dP : IntKind.u64.wrap ((q : Int) * (y0 : Int)) = (P : Int) := by rw [IntKind.wrap_u64, ← hP]; simp; omega
          have HP := Lib.hid hP
          clear hP
          by_cases hA : 4294967296 ≤ q
          · obtain ⟨w1, hD, w2⟩ := half_down y1 y0 r1 u0 q r hH.out (by omega) (by rw [← E0.out]; exact hr1y) u0c (.inl hA)
            obtain ⟨q2, hqp⟩ : ∃ p, q = p + 1 := ⟨q - 1, by omega⟩
            have hqi : (q : Int) - 1 = (q2 : Int) := by omega
            rw [show q - 1 = q2 by omega] at hD w2
            have HD := Lib.hid hD
            clear hD hqp w1
            have hC1 : decide ((4294967296 : Int) ≤ (q : Int)) = true := by simp; omega
            by_cases hE : 4294967296 ≤ r + y1
            · have hE1 : (4294967296 : Int) ≤ (r : Int) + (y1 : Int) := by omega
              have hF : q2 = (r1 * 4294967296 + u0) / (y1 * 4294967296 + y0) := half_break y1 y0 r1 u0 q2 (r + y1) HD.out (by omega) y0c w2 hE
              rw [← E0.out] at hF
              obtain ⟨f1, f2⟩ := div64_end hi lo y u1 u0 p q2 r1 E1.out u0c HQ1.out Hr1.out hF hyl hlt hl
              have HF1 := Lib.hid f1
              have HF2 := Lib.hid f2
              clear hF f1 f2
              go_wp2_with fail
              go_ret2
              exact ⟨ret_tup2 (by first | exact HF1.out | (have h := HF1.out; simp only [IntKind.wrap_u64] at h ⊢; omega)) (by first | exact HF2.out | (have h := HF2.out; simp only [IntKind.wrap_u64] at h ⊢; omega)), by first | exact Below.refl _ _ | exact (Below.refl _ w).drew | exact below_drewN (Below.refl _ _) _⟩
            · have hE1 : ¬ (4294967296 : Int) ≤ (r : Int) + (y1 : Int) := by omega
              go_wp2_with fail
              go_roundw
              case rel => exact ⟨q2, r + y1, by go_num, by go_num, by omega, by omega, HD, trivial⟩
              case measure => simp [intOf]; omega
          · by_cases hB : 4294967296 * r + u0 < P
            · obtain ⟨w1, hD, w2⟩ := half_down y1 y0 r1 u0 q r hH.out (by omega) (by rw [← E0.out]; exact hr1y) u0c (.inr (by rw [HP.out]; exact hB))
              obtain ⟨q2, hqp⟩ : ∃ p, q = p + 1 := ⟨q - 1, by omega⟩
              have hqi : (q : Int) - 1 = (q2 : Int) := by omega
              rw [show q - 1 = q2 by omega] at hD w2
              have HD := Lib.hid hD
              clear hD hqp w1
              have hC1 : decide ((4294967296 : Int) ≤ (q : Int)) = false := by simp; omega
              by_cases hE : 4294967296 ≤ r + y1
              · have hE1 : (4294967296 : Int) ≤ (r : Int) + (y1 : Int) := by omega
                have hF : q2 = (r1 * 4294967296 + u0) / (y1 * 4294967296 + y0) := half_break y1 y0 r1 u0 q2 (r + y1) HD.out (by omega) y0c w2 hE
                rw [← E0.out] at hF
                obtain ⟨f1, f2⟩ := div64_end hi lo y u1 u0 p q2 r1 E1.out u0c HQ1.out Hr1.out hF hyl hlt hl
                have HF1 := Lib.hid f1
                have HF2 := Lib.hid f2
                clear hF f1 f2
                go_wp2_with fail
                go_ret2
                exact ⟨ret_tup2 (by first | exact HF1.out | (have h := HF1.out; simp only [IntKind.wrap_u64] at h ⊢; omega)) (by first | exact HF2.out | (have h := HF2.out; simp only [IntKind.wrap_u64] at h ⊢; omega)), by first | exact Below.refl _ _ | exact (Below.refl _ w).drew | exact below_drewN (Below.refl _ _) _⟩
              · have hE1 : ¬ (4294967296 : Int) ≤ (r : Int) + (y1 : Int) := by omega
                go_wp2_with fail
                go_roundw
                case rel => exact ⟨q2, r + y1, by go_num, by go_num, by omega, by omega, HD, trivial⟩
                case measure => simp [intOf]; omega
            · have hC1 : decide ((4294967296 : Int) ≤ (q : Int)) = false := by simp; omega
              obtain ⟨q2, rfl⟩ : ∃ q2, q2 = q := ⟨q, rfl⟩
              have hF : q2 = (r1 * 4294967296 + u0) / (y1 * 4294967296 + y0) := half_stop y1 y0 r1 u0 q2 r hH.out (by omega) (by rw [HP.out]; omega)
              rw [← E0.out] at hF
              obtain ⟨f1, f2⟩ := div64_end hi lo y u1 u0 p q2 r1 E1.out u0c HQ1.out Hr1.out hF hyl hlt hl
              have HF1 := Lib.hid f1
              have HF2 := Lib.hid f2
              clear hF f1 f2
              go_wp2_with fail
              go_ret2
              exact ⟨ret_tup2 (by first | exact HF1.out | (have h := HF1.out; simp only [IntKind.wrap_u64] at h ⊢; omega)) (by first | exact HF2.out | (have h := HF2.out; simp only [IntKind.wrap_u64] at h ⊢; omega)), by first | exact Below.refl _ _ | exact (Below.refl _ w).drew | exact below_drewN (Below.refl _ _) _⟩

/-- math/bits.Div64 at a divisor of 64 bits. -/
theorem div64_any (hi lo y : Nat) (w : World) (hlt : hi < y) (hl : lo < 18446744073709551616) (hy : 9223372036854775808 ≤ y) (hyl : y < 18446744073709551616) :
    Calls Tryd.prog 74 #[.int .u64 (hi : Int), .int .u64 (lo : Int), .int .u64 (y : Int)] w fun e w' => e = .returned (.tuple #[.int .u64 (((hi * 18446744073709551616 + lo) / y : Nat) : Int), .int .u64 (((hi * 18446744073709551616 + lo) % y : Nat) : Int)]) ∧ Below w.heap.size w w' := by
  by_cases h0 : hi = 0
  · subst h0
    rw [Nat.zero_mul, Nat.zero_add]
    exact div64_zero lo y w hl hyl (by omega)
  · exact div64_core hi lo y _ _ w (by omega) hlt hl hy hyl rfl rfl
end Go.Proofs.YtjfjkabmpiebpaaDoor
