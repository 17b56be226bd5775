/-
  The reference of layer 2: Shr.
-/
import Derived.Test.YtjfjkabmpiebpaaDoorNatY
set_option linter.unusedSimpArgs false
set_option linter.unusedVariables false
namespace Go.Plumb
theorem mod_step (A i : Nat) : decide (A % 2 ^ (i + 1) ≠ 0) = (decide (A % 2 ^ i ≠ 0) || A.testBit i) := by
  rw [Nat.pow_succ, Nat.mod_mul, Nat.testBit_eq_decide_div_mod_eq]
  have hp := Nat.two_pow_pos i
  by_cases h0 : A % 2 ^ i = 0
  · rw [h0]
    by_cases h1 : A / 2 ^ i % 2 = 1
    · rw [h1]; simp
    · have : A / 2 ^ i % 2 = 0 := by omega
      rw [this]; simp
  · simp only [ne_eq, h0, not_false_eq_true, decide_true, Bool.true_or, decide_eq_true_eq]
    omega
theorem div_mod_step (A k j : Nat) : A / 2 ^ k % 2 ^ (j + 1) = A / 2 ^ k % 2 ^ j + 2 ^ j * (if A.testBit (k + j) then 1 else 0) := by
  rw [Nat.pow_succ, Nat.mod_mul, Nat.testBit_eq_decide_div_mod_eq, Nat.pow_add, Nat.div_div_eq_div_mul]
  congr 1
  by_cases h1 : A / (2 ^ k * 2 ^ j) % 2 = 1
  · simp [h1]
  · have : A / (2 ^ k * 2 ^ j) % 2 = 0 := by omega
    rw [this]; simp
theorem limb_lt (lo : List Nat) (j : Nat) (h : valL lo < 2 ^ j) (hd : j / 64 < lo.length) : lo.getD (j / 64) 0 < 2 ^ (j % 64) := by
  have h1 := valL_split lo (j / 64) (by omega)
  rw [valL_drop lo _ hd] at h1
  have h2 := pow64 j
  apply Nat.lt_of_not_le
  intro hle
  have h3 := Nat.mul_le_mul_left (18446744073709551616 ^ (j / 64)) hle
  rw [h2] at h3
  rw [Nat.mul_add] at h1
  omega
end Go.Plumb
namespace Go.Proofs.YtjfjkabmpiebpaaDoor
open Go.RowKit Go.Plumb

set_option maxHeartbeats 2000000 in
/-- The reference's Shr. -/
theorem rshr_any (a : Option Addr) (c k : Nat) (l : List Nat) (w : World) (hA : Arr w a c l) (hl : l.length ≤ 10000) (hk : k ≤ 9223372036854775807) :
    Calls Tryd.prog 30 #[.slice a l.length c, .int .i64 (k : Int)] w fun e w' => ∃ v, e = .returned (.tuple #[v, .bool (decide (valL l % 2 ^ k ≠ 0))]) ∧ OwnL w' w.heap.size v (limbs (valL l / 2 ^ k)) ∧ Below w.heap.size w w' := by
  have hBt := rbits_any a c l w hA (by omega)
  have HA : Hid (∀ wr, Below w.heap.size w wr → Arr wr a c l) := Lib.hid fun wr h => hA.below h
  have hLb : lenN (valL l) ≤ 64 * l.length := by
    have h := valL_lt hA.2.2.1
    exact lenN_le _ _ (by rwa [powB64] at h)
  obtain ⟨A, hAe⟩ : ∃ A, valL l = A := ⟨_, rfl⟩
  obtain ⟨L, hL⟩ : ∃ L, lenN (valL l) = L := ⟨_, rfl⟩
  rw [hL] at hBt hLb
  obtain ⟨n, hn⟩ : ∃ n, l.length = n := ⟨_, rfl⟩
  have Hn := Lib.hid hn
  have HAe := Lib.hid hAe
  have HL : Hid (lenN A = L) := Lib.hid (by rw [← hAe]; exact hL)
  rw [hn] at hBt hLb hl ⊢
  have hLi : (L : Int) ≤ 64 * (n : Int) := by omega
  have hni : (n : Int) ≤ 10000 := by omega
  have hki : (k : Int) ≤ 9223372036854775807 := by omega
  have hmk : ∀ w, Sem.run Tryd.prog ((Instr.makeSlice 22 (.int .i64 (n : Int)) (.int .i64 (n : Int)))) w = .ok (.slice (some ⟨w.heap.size, 0, none⟩) n n) (w.alloc (.cells (zerosA n) 36)) := fun w => by
    have := run_makeI (n : Int) (by omega) (by omega) w
    rwa [show ((n : Int)).toNat = n by omega] at this
  clear hA hn hL hLb hl hk hAe
  go_enter Tryd.func30, Tryd.ntmps30
  go_wp2_with fail
  refine hBt.mono ?_
  rintro e w1 ⟨rfl, hb⟩
  have HB := Lib.hid hb
  clear hBt hb
  go_wp2_with fail
  go_loopw [6, 8] (fun u v wr => ∃ (i : Nat) (bl : Bool), Hid (i ≤ L ∧ i ≤ k ∧ bl = decide (A % 2 ^ i ≠ 0)) ∧ v = .int .i64 (i : Int) ∧ u = .bool bl ∧ w1 = wr) (fun _ v _ => L - (intOf v).toNat)
  case atStart => exact ⟨0, false, Lib.hid ⟨Nat.zero_le _, Nat.zero_le _, by simp [Nat.mod_one]⟩, rfl, rfl, rfl⟩
  case round =>
    obtain ⟨i, bl, hz, rfl, rfl, rfl⟩ := hrel
    by_cases h1 : (i : Int) < (k : Int) ∧ (i : Int) < (L : Int)
    · obtain ⟨h2, h3⟩ := h1
      have z1 : decide ((i : Int) < (k : Int)) = true := by simp; omega
      have z2 : decide ((i : Int) < (L : Int)) = true := by simp; omega
      have hBi := rBit_any a c (i : Int) l w1 (HA.out w1 HB.out) (by omega)
      have e : bitB (valL l) (i : Int) = A.testBit i := by unfold bitB; rw [HAe.out]; simp
      rw [e, Hn.out] at hBi
      obtain ⟨b, hb⟩ : ∃ b, A.testBit i = b := ⟨_, rfl⟩
      rw [hb] at hBi
      have HS : Hid (decide (A % 2 ^ (i + 1) ≠ 0) = (bl || b)) := Lib.hid (by rw [mod_step, hz.out.2.2, hb])
      clear e hb
      cases bl
      · go_wp2_with (go_at_call 44; (with_reducible refine hBi.mono ?_); rintro e w' ⟨rfl, rfl⟩)
        go_roundw
        case rel => exact ⟨i + 1, b, Lib.hid ⟨by omega, by omega, by rw [HS.out]; rfl⟩, by go_num, rfl, trivial⟩
        case measure => simp [intOf]; omega
      · go_wp2_with (go_at_call 44; (with_reducible refine hBi.mono ?_); rintro e w' ⟨rfl, rfl⟩)
        go_roundw
        case rel => exact ⟨i + 1, true, Lib.hid ⟨by omega, by omega, by rw [HS.out]; rfl⟩, by go_num, rfl, trivial⟩
        case measure => simp [intOf]; omega
    · by_cases h2 : (L : Int) ≤ (k : Int)
      · have hiL : i = L := by have := hz.out; omega
        have HAlt : Hid (A < 2 ^ L) := Lib.hid (by rw [← HL.out]; exact lt_lenN A)
        have HP : Hid ((2 : Nat) ^ L ≤ 2 ^ k) := Lib.hid (Nat.pow_le_pow_right (by decide) (by omega))
        have Hbl : Hid (bl = decide (A % 2 ^ k ≠ 0)) := Lib.hid (by
          have h3 := HAlt.out
          have h4 := HP.out
          rw [hz.out.2.2, hiL, Nat.mod_eq_of_lt h3, Nat.mod_eq_of_lt (by omega)])
        have H0 : Hid (A / 2 ^ k = 0) := Lib.hid (Nat.div_eq_of_lt (by have h3 := HAlt.out; have h4 := HP.out; omega))
        have zz : (¬ (i < k)) ∨ (i < k ∧ ¬ (i < L)) := by omega
        have zN : decide (L ≤ k) = true := by simp; omega
        have zI : decide ((L : Int) ≤ (k : Int)) = true := by simp; omega
        have zL : L ≤ k := by omega
        clear h1 hiL h2
        rcases zz with z1 | ⟨z1, z2⟩
        all_goals go_wp2_with fail
        all_goals go_ret2
        all_goals exact ⟨_, by rw [HAe.out, ← Hbl.out]; rfl, by rw [HAe.out, H0.out, limbs_zero]; exact World.ownsRow_nil _ _ _ _, HB.out⟩
      · have hik : i = k := by have := hz.out; omega
        have z1 : ¬ (i < k) := by omega
        have z3 : decide ((L : Int) ≤ (k : Int)) = false := by simp; omega
        have hkL : (k : Int) < (L : Int) := by omega
        have zN : decide (L ≤ k) = false := by simp; omega
        have zL : ¬ (L ≤ k) := by omega
        have Hbl : Hid (bl = decide (A % 2 ^ k ≠ 0)) := Lib.hid (by rw [hz.out.2.2, hik])
        clear h1 h2 hik
        go_wp2_with fail
        go_loopw [10] (fun v wr => ∃ (i' j : Nat) (lo : List Nat), Hid (i' = k + j ∧ i' ≤ L ∧ lo.length = n ∧ Limbs lo ∧ valL lo = A / 2 ^ k % 2 ^ j) ∧ v = .int .i64 (i' : Int) ∧ Hid (OwnL wr w1.heap.size (.slice (some ⟨w1.heap.size, 0, none⟩) n n) lo) ∧ Hid (Below w1.heap.size w1 wr)) (fun v _ => L - (intOf v).toNat)
        case atStart =>
          have ho := owns_zeros w1 w1.heap.size n (Nat.le_refl _) (by omega)
          refine ⟨k, 0, List.replicate n 0, Lib.hid ⟨rfl, by omega, by simp, Limbs.replicate _, by rw [valL_replicate]; simp [Nat.mod_one]⟩, rfl, Lib.hid ?_, Lib.hid ((Below.refl _ _).alloc (Nat.le_refl _) _)⟩
          unfold OwnL
          rw [List.length_replicate]
          exact ho
        case round =>
          obtain ⟨i', j, lo, hS, rfl, hown, hB2⟩ := hrel
          by_cases h4 : (i' : Int) < (L : Int)
          · have hBi := rBit_any a c (i' : Int) l wr (HA.out wr (below_step HB.out hB2.out)) (by omega)
            have e : bitB (valL l) (i' : Int) = A.testBit i' := by unfold bitB; rw [HAe.out]; simp
            rw [e, Hn.out] at hBi
            obtain ⟨b, hb⟩ : ∃ b, A.testBit i' = b := ⟨_, rfl⟩
            rw [hb] at hBi
            have Hb := Lib.hid hb
            clear e hb
            cases b
            · go_wp2_with (go_at_call 44; (with_reducible refine hBi.mono ?_); rintro e w' ⟨rfl, rfl⟩)
              go_roundw
              case rel => exact ⟨i' + 1, j + 1, lo, Lib.hid ⟨by have := hS.out.1; omega, by omega, hS.out.2.2.1, hS.out.2.2.2.1, by rw [hS.out.2.2.2.2, div_mod_step, ← hS.out.1, Hb.out]; simp⟩, by go_num, hown, hB2⟩
              case measure => simp [intOf]; omega
            · obtain ⟨d, hd⟩ : ∃ d, j / 64 = d := ⟨_, rfl⟩
              obtain ⟨r, hr⟩ : ∃ r, j % 64 = r := ⟨_, rfl⟩
              have hij := hS.out.1
              have f0 : (i' : Int) - (k : Int) = (j : Int) := by omega
              have f1 : (j : Int) / 64 = (d : Int) := by omega
              have f2 : (j : Int) % 64 = (r : Int) := by omega
              have hr64 : r < 64 := by omega
              have hdn : (d : Int) < (n : Int) := by omega
              have hd0 : (0 : Int) ≤ (d : Int) := by omega
              have hvl : valL lo < 2 ^ j := by rw [hS.out.2.2.2.2]; exact Nat.mod_lt _ (Nat.two_pow_pos j)
              obtain ⟨x, hx⟩ : ∃ x, lo.getD d 0 = x := ⟨_, rfl⟩
              have hxr : x < 2 ^ r := by
                have h := limb_lt lo j hvl (by rw [hS.out.2.2.1]; omega)
                rw [hd, hr, hx] at h
                exact h
              have h64 : (2 : Nat) ^ r + 2 ^ r ≤ 18446744073709551616 := by
                have h := Nat.pow_le_pow_right (show 0 < 2 by decide) (show r + 1 ≤ 64 by omega)
                rw [Nat.pow_succ] at h
                have e64 : (2 : Nat) ^ 64 = 18446744073709551616 := by decide
                omega
              obtain ⟨p, hp⟩ : ∃ p, (2 : Nat) ^ r = p := ⟨_, rfl⟩
              have f3 : IntKind.u64.wrap ((2 : Int) ^ r) = (p : Int) := by
                have e : (2 : Int) ^ r = ((2 ^ r : Nat) : Int) := by simp
                rw [e, hp, IntKind.wrap_u64]
                rw [hp] at h64 hxr
                omega
              rw [hp] at h64 hxr
              obtain ⟨z, hz'⟩ : ∃ z, x + p = z := ⟨_, rfl⟩
              have f4 : (x : Int) + (p : Int) = (z : Int) := by omega
              have hzi : (z : Int) < 18446744073709551616 := by omega
              have hco : wr.cell? ⟨w1.heap.size, d, none⟩ = some (.int .u64 (x : Int)) := by
                have e2 := hS.out.2.2.1
                refine OwnL.cell hown.out d x ?_
                rw [List.getElem?_eq_getElem (by omega), ← hx]
                simp [List.getD, show d < lo.length by omega]
              have hfo := OwnL.thaw hown.out d
              have HN : Hid (valL (lo.set d z) = A / 2 ^ k % 2 ^ (j + 1) ∧ z < 18446744073709551616) := Lib.hid (by
                have hv := valL_set lo d z (by rw [hS.out.2.2.1]; omega)
                rw [hx, ← hz', Nat.mul_add] at hv
                rw [div_mod_step, ← hij, Hb.out, ← hS.out.2.2.2.2]
                have h2 := pow64 j
                rw [hd, hr, hp] at h2
                rw [← h2, ← hz']
                refine ⟨?_, by omega⟩
                simp only [if_true, Nat.mul_one]
                omega)
              clear hd hr hij hvl hx hxr h64 hp hz'
              go_wp2_with (go_at_call 44; (with_reducible refine hBi.mono ?_); rintro e w' ⟨rfl, rfl⟩)
              go_roundw
              case rel => exact ⟨i' + 1, j + 1, lo.set d z, Lib.hid ⟨by have := hS.out.1; omega, by omega, by rw [List.length_set]; exact hS.out.2.2.1, hS.out.2.2.2.1.set _ _ HN.out.2, HN.out.1⟩, by go_num, Lib.hid (OwnL.store hown.out d z _ rfl), Lib.hid (hB2.out.setCell (Nat.le_refl _) _)⟩
              case measure => simp [intOf]; omega
          · have hlast : valL lo = A / 2 ^ k := by
              have hiL : i' = L := by have := hS.out; omega
              rw [hS.out.2.2.2.2]
              apply Nat.mod_eq_of_lt
              rw [Nat.div_lt_iff_lt_mul (Nat.two_pow_pos k), ← Nat.pow_add, show j + k = L by have := hS.out.1; omega, ← HL.out]
              exact lt_lenN A
            have hN := rnorm_any _ _ _ wr (OwnL.arr' (by have h := hown.out; rw [← hS.out.2.2.1] at h; exact h) hS.out.2.2.2.1) (by rw [hS.out.2.2.1]; omega)
            rw [hlast, hS.out.2.2.1] at hN
            have HB9 := Lib.hid (below_step HB.out hB2.out)
            clear hlast hown
            go_wp2_with fail
            refine hN.mono ?_
            rintro e w10 ⟨v, rfl, ho, hb⟩
            have HO := Lib.hid (OwnL.weaken ho HB9.out.size)
            have HB10 := Lib.hid (below_step HB9.out hb)
            clear hN ho hb
            go_wp2_with fail
            go_ret2
            exact ⟨v, by rw [HAe.out, ← Hbl.out]; rfl, by rw [HAe.out]; exact HO.out, HB10.out⟩
end Go.Proofs.YtjfjkabmpiebpaaDoor
