/-
  Walks: bits.Read.
-/
import Derived.Test.YtaeognfpmhfmgaaDoorReadSpec
set_option linter.unusedSimpArgs false
set_option linter.unusedVariables false
namespace Go.Plumb
theorem hexd_inj {a b : Int} (h : hexd a = hexd b) (ha : a < 16) (hb : b < 16) (ha0 : 0 ≤ a) (hb0 : 0 ≤ b) : a = b := by
  unfold hexd at h; split at h <;> split at h <;> omega
theorem hexd_bounds (a : Int) (h0 : 0 ≤ a) (h1 : a < 16) : 48 ≤ hexd a ∧ hexd a ≤ 70 := by unfold hexd; split <;> omega

/-- One rune more: where the text is a word's, what is gathered is its digits so far. -/
theorem read_step (s : ByteArray) (pos n : Nat) (W : Int) (hp : pos < s.size)
    (HV : ∀ V, readI s = some V → pos ≤ 16 ∧ readFrom (s.data.toList.take pos) 0 = some W) (hn : n ≤ 16)
    (hx : (n < 16 ∧ hexd n = (Utf8.decode s pos).1) ∨ n = 16) (hb : ∀ i : Nat, i < n → hexd i ≠ (Utf8.decode s pos).1) :
    ∀ V, readI s = some V → pos + (Utf8.decode s pos).2 ≤ 16 ∧ readFrom (s.data.toList.take (pos + (Utf8.decode s pos).2)) 0 = some ((W * 16) % 18446744073709551616 + (n : Int) % 16) := by
  intro V hV
  obtain ⟨h1, h2⟩ := HV V hV
  have hV' := hV
  unfold readI at hV'
  split at hV'
  · rename_i hs
    have hl : s.data.toList.length = 16 := by simpa using hs
    have hpl : pos < s.data.toList.length := by omega
    have hsplit : s.data.toList = s.data.toList.take pos ++ s.data.toList[pos] :: s.data.toList.drop (pos + 1) := by
      rw [← List.drop_eq_getElem_cons hpl, List.take_append_drop]
    rw [hsplit, readFrom_append, h2] at hV'
    simp only [Option.bind_some] at hV'
    unfold readFrom at hV'
    have hbyte : s.data.toList[pos] = s[pos]'hp := by simp [ByteArray.getElem_eq_getElem_data]
    cases hv : hexval s.data.toList[pos] with
    | none => rw [hv] at hV'; cases hV'
    | some d =>
      obtain ⟨d0, d1, d2⟩ := hexval_some hv
      rw [hbyte] at d2
      have hbd := hexd_bounds d d0 d1
      have hdec := decode_ascii s pos hp (by omega)
      have e1 : (Utf8.decode s pos).1 = (s[pos]'hp).toNat := by rw [hdec]
      have e2 : (Utf8.decode s pos).2 = 1 := by rw [hdec]
      have hnd : (n : Int) = d := by
        rcases hx with ⟨hn1, hn2⟩ | rfl
        · exact hexd_inj (by rw [hn2, e1, ← d2]) (by omega) d1 (by omega) d0
        · exfalso
          have := hb d.toNat (by omega)
          apply this
          rw [e1, ← d2]
          congr 1; omega
      have hbnd := readFrom_bound _ _ _ (by omega) h2
      have hlen : (s.data.toList.take pos).length = pos := by simp; omega
      rw [hlen] at hbnd
      have hp15 : (16 : Int) ^ pos ≤ 16 ^ 15 := by
        have := Nat.pow_le_pow_right (n := 16) (by decide) (show pos ≤ 15 by omega)
        exact_mod_cast this
      rw [e2]
      refine ⟨by omega, ?_⟩
      rw [List.take_succ_eq_append_getElem hpl, readFrom_append, h2]
      simp only [Option.bind_some]
      unfold readFrom
      rw [hv]
      show some _ = some _
      congr 1
      have : (16 : Int) ^ 15 = 1152921504606846976 := by decide
      omega
  · cases hV'

theorem readV_of (s : ByteArray) (W : Int) (HV : ∀ V, readI s = some V → 16 ≤ 16 ∧ readFrom (s.data.toList.take 16) 0 = some W) (V : Int) (h : readI s = some V) : V = W := by
  have h2 := (HV V h).2
  unfold readI at h
  split at h
  · rename_i hs
    have hl : s.data.toList.length = 16 := by simpa using hs
    rw [List.take_of_length_le (by omega), h] at h2
    cases h2; rfl
  · cases h
end Go.Plumb
namespace Go.Proofs.YtaeognfpmhfmgaaDoor
open Go.RowKit Go.Plumb

theorem width_pos (s : ByteArray) (pos : Nat) (h : pos < s.size) : 1 ≤ (Utf8.decode s pos).2 := by
  by_cases ha : (s[pos]'h).toNat < 128
  · rw [decode_ascii s pos h ha]
    exact Nat.le_refl _
  · exact (decode_high s pos h (by omega)).2

theorem below_iter {w0 w : World} (h : Below w0.heap.size w0 w) (s : ByteArray) (p : Nat) : Below w0.heap.size w0 (w.iter s p) := below_alloc h _

set_option maxHeartbeats 2000000 in
theorem read_any (s : ByteArray) (w : World) (hs : s.size ≤ 9223372036854775807) :
    Calls Tryd.prog 42 #[.string s] w fun e w' => e = .returned (.tuple #[.int .u64 (readV s), .int .i64 (readE s)]) ∧ Below w.heap.size w w' := by
  go_enter Tryd.func42, Tryd.ntmps42
  go_wp2_with fail
  go_loopw [4] (fun v4 wr => ∃ (pos : Nat) (W : Int), v4 = .int .u64 W ∧ wr = w.iter s pos ∧ 0 ≤ W ∧ W < 18446744073709551616 ∧ Hid (∀ V, readI s = some V → pos ≤ 16 ∧ readFrom (s.data.toList.take pos) 0 = some W)) (fun _ wr => s.size - wr.iterPos w.heap.size)
  case atStart => exact ⟨0, 0, rfl, rfl, by omega, by omega, fun V _ => ⟨by omega, rfl⟩⟩
  case round =>
    obtain ⟨pos, W, rfl, rfl, W0, W1, HV⟩ := hrel
    by_cases hp : pos < s.size
    · have hnx := fun ty => run_next_any (P := Tryd.prog) w s pos ty hp
      have hwd := width_pos s pos hp
      have hr := decode_le s pos
      have HS := Lib.hid (read_step s pos)
      generalize (Utf8.decode s pos).1 = r at *
      generalize (Utf8.decode s pos).2 = adv at *
      go_wp2_with fail
      go_loop [7] (fun v7 => ∃ n : Nat, n ≤ 16 ∧ v7 = .int .i64 n ∧ Hid (∀ i : Nat, i < n → hexd i ≠ r)) (fun v7 => (16 - intOf v7).toNat)
      case atStart => exact ⟨0, by omega, rfl, fun i hi => by omega⟩
      case round =>
        obtain ⟨n, hn, rfl, HB⟩ := hrel
        by_cases hc : n < 16 ∧ hexd n ≠ r
        · obtain ⟨hlt, hne⟩ := hc
          have hd := run_digit_i n (by omega) (by omega)
          have hbd := hexd_bounds n (by omega) (by omega)
          have hneb : (hexd (n : Int) != (r : Int)) = true := by simpa using hne
          have HN := Lib.hid hne
          clear hne
          go_wp2_with fail
          go_round
          case rel => exact ⟨n + 1, by omega, by go_num, fun i hi => by
            rcases Nat.lt_or_ge i n with h | h
            · exact HB.out i h
            · obtain rfl : i = n := by omega
              exact HN.out⟩
          case measure => simp [intOf]; omega
        · have hx : (n < 16 ∧ hexd n = r) ∨ n = 16 := by
            by_cases h : n < 16
            · left; refine ⟨h, ?_⟩
              by_cases h' : hexd n = r
              · exact h'
              · exact absurd ⟨h, h'⟩ hc
            · right; omega
          have HX := Lib.hid (HS.out n W hp HV.out hn hx HB.out)
          have e1 : bits .and .i64 (n : Int) 15 = (n : Int) % 16 := bits_mask .i64 63 (by decide) (fun x a b => by rw [IntKind.wrap_i64]; omega) 4 (by decide) n (by omega) (by omega)
          have e2 : bits .or .u64 (IntKind.u64.wrap (W * 16)) ((n : Int) % 16) = (W * 16) % 18446744073709551616 + (n : Int) % 16 := by
            rw [IntKind.wrap_u64]
            exact or_join 4 (by omega) (by omega) (by omega) (by omega) (by omega) (by omega)
          have b0 : 0 ≤ (W * 16) % 18446744073709551616 + (n : Int) % 16 := by omega
          have b1 : (W * 16) % 18446744073709551616 + (n : Int) % 16 < 18446744073709551616 := by omega
          generalize (W * 16) % 18446744073709551616 + (n : Int) % 16 = X at *
          clear HS hc HV
          rcases hx with ⟨hlt, heq⟩ | rfl
          · have hd := run_digit_i n (by omega) (by omega)
            have hbd := hexd_bounds n (by omega) (by omega)
            have hneb : (hexd (n : Int) != (r : Int)) = false := by simpa using heq
            clear heq
            go_wp2_with fail
            go_roundw
            case rel => exact ⟨_, X, rfl, rfl, b0, b1, HX⟩
            case measure => rw [World.iterPos_iter, World.iterPos_iter]; omega
          · have e1' : bits .and .i64 16 15 = 0 := by decide
            have e2' : bits .or .u64 (IntKind.u64.wrap (W * 16)) 0 = X := by simpa using e2
            have e3' : IntKind.u64.wrap 0 = 0 := by decide
            go_wp2_with fail
            go_roundw
            case rel => exact ⟨_, X, rfl, rfl, b0, b1, HX⟩
            case measure => rw [World.iterPos_iter, World.iterPos_iter]; omega
    · have hnx := fun ty => run_next_end (P := Tryd.prog) w s pos ty hp
      by_cases h16 : s.size = 16
      · have h16b : ((s.size : Int) != 16) = false := by simp; omega
        by_cases hT : textB W = s
        · have hI : readI s = some W := by rw [← hT]; exact read_text W W0 W1
          have HV1 : Hid (readV s = W) := by unfold readV; rw [hI]; exact Lib.hid rfl
          have HE1 : Hid (readE s = 0) := by unfold readE; rw [hI]; exact Lib.hid rfl
          have htb : ((textB W).toList == s.toList) = true := by rw [hT]; simp
          clear hT hI HV
          go_wp2_with (go_at_call 44; (with_reducible refine (text_any _ _ (by assumption) (by assumption)).mono ?_); rintro e w' ⟨rfl, hb⟩; have hB := below_step (w0 := w) (by (repeat' (first | exact Below.refl _ _ | assumption | (refine below_alloc ?_ _) | (refine Below.setCell ?_ ?_ _) | (refine Below.drew ?_) | (refine below_drewN ?_ _))) <;> (first | (simp; done) | (simp; omega) | omega)) hb; have hs := hb.size; (try simp at hs); (try have hz0 : w.heap.size < w'.heap.size := by omega); (try have hz1 : w.heap.size + 1 < w'.heap.size := by omega); (try have hz2 : w.heap.size + 1 + 1 < w'.heap.size := by omega); (try have hz3 : w.heap.size + 1 + 1 + 1 < w'.heap.size := by omega); obtain ⟨hc, hf⟩ := bcell hb; clear hb)
          go_ret2
          exact ⟨ret_two HV1.out.symm HE1.out.symm, by first | assumption | (repeat' (first | exact Below.refl _ _ | assumption | (refine below_alloc ?_ _) | (refine Below.setCell ?_ ?_ _) | (refine Below.drew ?_) | (refine below_drewN ?_ _))) <;> (first | (simp; done) | (simp; omega) | omega)⟩
        · have hI : readI s = none := by
            cases hI : readI s with
            | none => rfl
            | some V =>
              exfalso
              obtain ⟨h1, h2⟩ := HV.out V hI
              obtain ⟨t1, t2, t3⟩ := text_of_read s V hI
              have hV : V = W := by
                rw [List.take_of_length_le (by simp; omega)] at h2
                unfold readI at hI
                rw [if_pos h16, h2] at hI
                cases hI; rfl
              subst hV
              exact hT t1
          have HV1 : Hid (readV s = 0) := by unfold readV; rw [hI]; exact Lib.hid rfl
          have HE1 : Hid (readE s = 4) := by unfold readE; rw [hI]; exact Lib.hid rfl
          have htb : ((textB W).toList == s.toList) = false := by
            rw [beq_eq_false_iff_ne]
            intro h
            apply hT
            rw [ByteArray.toList_eq, ByteArray.toList_eq] at h
            exact ByteArray.ext (by simpa using h)
          clear hT hI HV
          go_wp2_with (go_at_call 44; (with_reducible refine (text_any _ _ (by assumption) (by assumption)).mono ?_); rintro e w' ⟨rfl, hb⟩; have hB := below_step (w0 := w) (by (repeat' (first | exact Below.refl _ _ | assumption | (refine below_alloc ?_ _) | (refine Below.setCell ?_ ?_ _) | (refine Below.drew ?_) | (refine below_drewN ?_ _))) <;> (first | (simp; done) | (simp; omega) | omega)) hb; have hs := hb.size; (try simp at hs); (try have hz0 : w.heap.size < w'.heap.size := by omega); (try have hz1 : w.heap.size + 1 < w'.heap.size := by omega); (try have hz2 : w.heap.size + 1 + 1 < w'.heap.size := by omega); (try have hz3 : w.heap.size + 1 + 1 + 1 < w'.heap.size := by omega); obtain ⟨hc, hf⟩ := bcell hb; clear hb)
          go_ret2
          exact ⟨ret_two HV1.out.symm HE1.out.symm, by first | assumption | (repeat' (first | exact Below.refl _ _ | assumption | (refine below_alloc ?_ _) | (refine Below.setCell ?_ ?_ _) | (refine Below.drew ?_) | (refine below_drewN ?_ _))) <;> (first | (simp; done) | (simp; omega) | omega)⟩
      · have hI : readI s = none := by unfold readI; rw [if_neg h16]
        have HV1 : Hid (readV s = 0) := by unfold readV; rw [hI]; exact Lib.hid rfl
        have HE1 : Hid (readE s = 4) := by unfold readE; rw [hI]; exact Lib.hid rfl
        have h16b : ((s.size : Int) != 16) = true := by simp; omega
        clear hI HV h16
        go_wp2_with fail
        go_ret2
        exact ⟨ret_two HV1.out.symm HE1.out.symm, by exact below_iter (Below.refl _ _) s pos⟩

end Go.Proofs.YtaeognfpmhfmgaaDoor
