/-
  Walks of the reference's: Read, Log.
-/
import Derived.Test.YtaeognfpmhfmgaaDoorBitsV
set_option linter.unusedSimpArgs false
set_option linter.unusedVariables false
namespace Go.Plumb
theorem readFrom_take_succ (s : ByteArray) (i : Nat) (hi : i < s.size) (W : Int) (h : readFrom (s.data.toList.take i) 0 = some W) :
    readFrom (s.data.toList.take (i + 1)) 0 = (hexval (s[i]'hi)).map fun d => W * 16 + d := by
  have hpl : i < s.data.toList.length := by simpa using hi
  have hbyte : s.data.toList[i] = s[i]'hi := by simp [ByteArray.getElem_eq_getElem_data]
  rw [List.take_succ_eq_append_getElem hpl, readFrom_append, h]
  simp only [Option.bind_some]
  unfold readFrom
  rw [hbyte]
  cases hexval s[i] <;> rfl
theorem readI_none (s : ByteArray) (i : Nat) (hi : i < s.size) (W : Int) (h : readFrom (s.data.toList.take i) 0 = some W) (hn : hexval (s[i]'hi) = none) : readI s = none := by
  unfold readI
  split
  · have hpl : i < s.data.toList.length := by simpa using hi
    have hbyte : s.data.toList[i] = s[i]'hi := by simp [ByteArray.getElem_eq_getElem_data]
    have hsplit : s.data.toList = s.data.toList.take i ++ s.data.toList[i] :: s.data.toList.drop (i + 1) := by
      rw [← List.drop_eq_getElem_cons hpl, List.take_append_drop]
    rw [hsplit, readFrom_append, h]
    simp only [Option.bind_some]
    unfold readFrom
    rw [hbyte, hn]
  · rfl
end Go.Plumb
namespace Go.Proofs.YtaeognfpmhfmgaaDoor
open Go.RowKit Go.Plumb

set_option maxHeartbeats 2000000 in
theorem rread_any (s : ByteArray) (w : World) (hs : s.size ≤ 9223372036854775807) :
    Calls Tryd.prog 43 #[.string s] w fun e w' => e = .returned (.tuple #[.int .u64 (readV s), .int .i64 (readE s)]) ∧ w = w' := by
  by_cases h16 : s.size = 16
  · have h16b : ((s.size : Int) != 16) = false := by simp; omega
    go_enter Tryd.func43, Tryd.ntmps43
    go_wp2_with fail
    have H16 := Lib.hid h16
    have hsz : 16 ≤ s.size := by omega
    clear h16b h16
    go_loop [4, 5] (fun v4 v5 => ∃ (i : Nat) (W : Int), v4 = .int .u64 W ∧ v5 = .int .i64 i ∧ i ≤ 16 ∧ Hid (readFrom (s.data.toList.take i) 0 = some W) ∧ 0 ≤ W ∧ (i < 16 → W < 1152921504606846976) ∧ W < 18446744073709551616) (fun _ v5 => (16 - intOf v5).toNat)
    case atStart => exact ⟨0, 0, rfl, rfl, by omega, rfl, by omega, by omega, by omega⟩
    case round =>
      obtain ⟨i, W, rfl, rfl, hi, HR, W0, W1, W2⟩ := hrel
      by_cases hlt : i < 16
      · have W1 := W1 hlt
        have his : i < s.size := by omega
        have HS := Lib.hid (readFrom_take_succ s i his W HR.out)
        have HBd : ∀ V, readFrom (s.data.toList.take (i + 1)) 0 = some V → V < 16 ^ (i + 1) := by
          intro V hV
          have := (readFrom_bound _ _ _ (by omega) hV).2
          have hlen : (s.data.toList.take (i + 1)).length = i + 1 := by simp; omega
          rw [hlen] at this
          omega
        have HBD := Lib.hid HBd
        clear HBd
        have h15 : ∀ V : Int, V < 16 ^ (i + 1) → V < 18446744073709551616 ∧ (i + 1 < 16 → V < 1152921504606846976) := by
          intro V hV
          have a := Nat.pow_le_pow_right (n := 16) (by decide) (show i + 1 ≤ 16 by omega)
          have a' : (16 : Int) ^ (i + 1) ≤ 16 ^ 16 := by exact_mod_cast a
          refine ⟨by have : (16 : Int) ^ 16 = 18446744073709551616 := by decide
                     omega, fun h => ?_⟩
          have b := Nat.pow_le_pow_right (n := 16) (by decide) (show i + 1 ≤ 15 by omega)
          have b' : (16 : Int) ^ (i + 1) ≤ 16 ^ 15 := by exact_mod_cast b
          have : (16 : Int) ^ 15 = 1152921504606846976 := by decide
          omega
        have H15 := Lib.hid h15
        clear h15
        by_cases hd : 48 ≤ (s[i]'his).toNat ∧ (s[i]'his).toNat ≤ 57
        · have hv : hexval (s[i]'his) = some (((s[i]'his).toNat : Int) - 48) := by unfold hexval; rw [if_pos hd]
          have HV := Lib.hid hv
          obtain ⟨hd1, hd2⟩ := hd
          have hi1 : (48 : Int) ≤ ((s[i]'his).toNat : Int) := by omega
          have hi2 : ((s[i]'his).toNat : Int) ≤ 57 := by omega
          clear hv hd1 hd2
          go_wp2_with fail
          go_round
          case rel =>
            have hs1 := HS.out
            rw [HV.out] at hs1
            have hb := H15.out _ (HBD.out _ hs1)
            exact ⟨i + 1, _, rfl, by go_num, by omega, hs1, by omega, hb.2, hb.1⟩
          case measure => simp [intOf]; omega
        · by_cases hl : 65 ≤ (s[i]'his).toNat ∧ (s[i]'his).toNat ≤ 70
          · have hv : hexval (s[i]'his) = some (((s[i]'his).toNat : Int) - 55) := by unfold hexval; rw [if_neg hd, if_pos hl]
            have HV := Lib.hid hv
            obtain ⟨hd1, hd2⟩ := hl
            have hi1 : (65 : Int) ≤ ((s[i]'his).toNat : Int) := by omega
            have hi2 : ((s[i]'his).toNat : Int) ≤ 70 := by omega
            clear hv hd1 hd2 hd
            go_wp2_with fail
            go_round
            case rel =>
              have hs1 := HS.out
              rw [HV.out] at hs1
              have hb := H15.out _ (HBD.out _ hs1)
              exact ⟨i + 1, W * 16 + (((s[i]'his).toNat : Int) - 55), by rw [show W * 16 + (((s[i]'his).toNat : Int) - 65 + 10) = W * 16 + (((s[i]'his).toNat : Int) - 55) by omega], by go_num, by omega, hs1, by omega, hb.2, hb.1⟩
            case measure => simp [intOf]; omega
          · have hv : hexval (s[i]'his) = none := by unfold hexval; rw [if_neg hd, if_neg hl]
            have hI := readI_none s i his W HR.out hv
            have HV1 : Hid (readV s = 0) := by unfold readV; rw [hI]; exact Lib.hid rfl
            have HE1 : Hid (readE s = 4) := by unfold readE; rw [hI]; exact Lib.hid rfl
            have hdd : (s[i]'his).toNat < 48 ∨ (57 < (s[i]'his).toNat ∧ (s[i]'his).toNat < 65) ∨ 70 < (s[i]'his).toNat := by omega
            clear hv hI hd hl HS HBD H15
            rcases hdd with hdd | ⟨hdd, hdd'⟩ | hdd
            all_goals
              go_wp2_with fail
              go_ret2
              exact ⟨ret_two HV1.out.symm HE1.out.symm, rfl⟩
      · obtain rfl : i = 16 := by omega
        have hI : readI s = some W := by
          unfold readI
          rw [if_pos H16.out]
          have := HR.out
          rw [List.take_of_length_le (by have := H16.out; simp; omega)] at this
          exact this
        have HV1 : Hid (readV s = W) := by unfold readV; rw [hI]; exact Lib.hid rfl
        have HE1 : Hid (readE s = 0) := by unfold readE; rw [hI]; exact Lib.hid rfl
        clear hI hlt W1
        go_wp2_with fail
        go_ret2
        exact ⟨ret_two HV1.out.symm HE1.out.symm, rfl⟩
  · have hI : readI s = none := by unfold readI; rw [if_neg h16]
    have HV1 : Hid (readV s = 0) := by unfold readV; rw [hI]; exact Lib.hid rfl
    have HE1 : Hid (readE s = 4) := by unfold readE; rw [hI]; exact Lib.hid rfl
    have h16b : ((s.size : Int) != 16) = true := by simp; omega
    clear hI h16
    go_enter Tryd.func43, Tryd.ntmps43
    go_wp2_with fail
    go_ret2
    exact ⟨ret_two HV1.out.symm HE1.out.symm, rfl⟩

set_option maxHeartbeats 1000000 in
theorem rlog_core (x m e l : Int) (w : World) (h0 : 0 ≤ x) (h1 : x < 18446744073709551616) (hc : classI x ≤ 3) (hm : pMan x = m) (m0 : 1 ≤ m) (m1 : m < 9007199254740992) (he : pExp x = e) (e0 : -1074 ≤ e) (e1 : e ≤ 973)
    (hl : ∀ j : Nat, m / 2 ^ j = 1 → e + j = l) :
    Calls Tryd.prog 36 #[.int .u64 x] w fun e' w' => e' = .returned (.int .i64 l) ∧ Below w.heap.size w w' := by
  have HL := Lib.hid hl
  clear hl
  go_enter Tryd.func36, Tryd.ntmps36
  go_wp2_with (go_at_call 25; (with_reducible refine (rparts_any _ _ (by assumption) (by assumption) (by assumption)).mono ?_); rintro e w' ⟨rfl, hb⟩; have hB := below_step (w0 := w) (by (repeat' (first | exact Below.refl _ _ | assumption | (refine below_alloc ?_ _) | (refine Below.setCell ?_ ?_ _) | (refine Below.drew ?_) | (refine below_drewN ?_ _))) <;> (first | (simp; done) | (simp; omega) | omega)) hb; have hs := hb.size; (try simp at hs); (try have hz0 : w.heap.size < w'.heap.size := by omega); (try have hz1 : w.heap.size + 1 < w'.heap.size := by omega); (try have hz2 : w.heap.size + 1 + 1 < w'.heap.size := by omega); (try have hz3 : w.heap.size + 1 + 1 + 1 < w'.heap.size := by omega); obtain ⟨hc, hf⟩ := bcell hb; clear hb)
  have HM := Lib.hid hm
  have HE := Lib.hid he
  have HPN : ∃ b : Bool, pNeg x = b := ⟨_, rfl⟩
  obtain ⟨bn, hbn⟩ := HPN
  simp only [hbn]
  clear hm he hc hf
  go_loopg [4] m.toNat (fun g v4 wr => ∃ (j : Nat) (X Y : Int), v4 = .int .i64 Y ∧ wr = w'.alloc (.cells #[.bool bn, .int .u64 X, .int .i64 e] 32) ∧ X = m / 2 ^ j ∧ Y = e + j ∧ 1 ≤ X ∧ X < 9007199254740992 ∧ g = X.toNat ∧ j ≤ 100)
  case atStart => exact ⟨0, m, e, rfl, rfl, by simp, by simp, m0, m1, rfl, by omega⟩
  case round =>
    obtain ⟨j, X, Y, rfl, rfl, hX, hY, X0, X1, rfl, hj⟩ := hrel
    have HX := Lib.hid hX
    have HY := Lib.hid hY
    have hYl : -1074 ≤ Y := by omega
    have hYu : Y ≤ 1100 := by omega
    clear hX hY
    by_cases h1 : 1 < X
    · have hj2 : j ≤ 52 := by
        apply Nat.le_of_not_lt
        intro h
        have hx := HX.out
        have hp : (2 : Int) ^ 53 ≤ 2 ^ j := by
          have := Nat.pow_le_pow_right (n := 2) (by decide) h
          exact_mod_cast this
        have h53 : (2 : Int) ^ 53 = 9007199254740992 := by decide
        rw [Int.ediv_eq_zero_of_lt (by omega) (by omega)] at hx
        omega
      go_wp2_with fail
      go_roundg (X / 2).toNat
      case measure => omega
      case rel => exact ⟨j + 1, X / 2, Y + 1, rfl, rfl, by rw [HX.out, div_pow_succ], by rw [HY.out]; omega, by omega, by omega, rfl, by omega⟩
    · have hX1 : X = 1 := by omega
      have HF : Hid (Y = l) := by
        have := HL.out j (by rw [← HX.out, hX1])
        rw [← HY.out] at this
        exact this
      clear h1
      subst hX1
      go_wp2_with fail
      go_ret
      exact ⟨ret_int HF.out, by (repeat' (first | exact Below.refl _ _ | assumption | (refine below_alloc ?_ _) | (refine Below.setCell ?_ ?_ _) | (refine Below.drew ?_) | (refine below_drewN ?_ _))) <;> (first | (simp; done) | (simp; omega) | omega)⟩

end Go.Proofs.YtaeognfpmhfmgaaDoor
