/-
  strings.ContainsFunc at the closure of nat.Read: is there a rune that is no digit?
-/
import Derived.Test.YtjfjkabmpiebpaaDoorNatBi
set_option linter.unusedSimpArgs false
set_option linter.unusedVariables false
namespace Go.Proofs.YtjfjkabmpiebpaaDoor
open Go.RowKit Go.Plumb

theorem below_iter {w0 w : World} (h : Below w0.heap.size w0 w) (s : ByteArray) (p : Nat) : Below w0.heap.size w0 (w.iter s p) := below_alloc h _
theorem width_pos (s : ByteArray) (pos : Nat) (h : pos < s.size) : 1 ≤ (Utf8.decode s pos).2 := by
  by_cases ha : (s[pos]'h).toNat < 128
  · rw [decode_ascii s pos h ha]
    exact Nat.le_refl _
  · exact (decode_high s pos h (by omega)).2
theorem bad_any (r : Nat) (w : World) (hr : r ≤ 2147483647) :
    Calls Tryd.prog 67 #[.int .i32 (r : Int)] w fun e w' => e = .returned (.bool (decide (r < 48 ∨ 57 < r))) ∧ w = w' := by
  go_enter Tryd.func67, Tryd.ntmps67
  by_cases h1 : (r : Int) < 48
  · have e : decide (r < 48 ∨ 57 < r) = true := by simp; omega
    rw [e]
    clear e
    go_wp2_with fail
    go_ret
    exact ⟨rfl, rfl⟩
  · by_cases h2 : (57 : Int) < (r : Int)
    · have e : decide (r < 48 ∨ 57 < r) = true := by simp; omega
      rw [e]
      clear e
      have h3 : (48 : Int) ≤ (r : Int) := by omega
      clear h1
      go_wp2_with fail
      go_ret
      exact ⟨rfl, rfl⟩
    · have e : decide (r < 48 ∨ 57 < r) = false := by simp; omega
      rw [e]
      clear e
      have h3 : (48 : Int) ≤ (r : Int) := by omega
      have h4 : (r : Int) ≤ 57 := by omega
      clear h1 h2
      go_wp2_with fail
      go_ret
      exact ⟨by simp; omega, rfl⟩
/-- A rune that is a digit is a byte that is. -/
theorem rune_digit (s : ByteArray) (pos : Nat) (h : pos < s.size) : ¬ ((Utf8.decode s pos).1 < 48 ∨ 57 < (Utf8.decode s pos).1) → (Utf8.decode s pos).1 = (s[pos]'h).toNat ∧ (Utf8.decode s pos).2 = 1 ∧ 48 ≤ (s[pos]'h).toNat ∧ (s[pos]'h).toNat ≤ 57 := by
  intro hn
  by_cases ha : (s[pos]'h).toNat < 128
  · rw [decode_ascii s pos h ha] at hn ⊢
    exact ⟨rfl, rfl, by omega, by omega⟩
  · have := (decode_high s pos h (by omega)).1
    omega
theorem digit_rune (s : ByteArray) (pos : Nat) (h : pos < s.size) (hd : 48 ≤ (s[pos]'h).toNat ∧ (s[pos]'h).toNat ≤ 57) : Utf8.decode s pos = ((s[pos]'h).toNat, 1) := decode_ascii s pos h (by omega)

set_option maxHeartbeats 2000000 in
theorem indexFunc_any (s : ByteArray) (w : World) (hs : s.size ≤ 9223372036854775807) :
    Calls Tryd.prog 85 #[.string s, .func (.func 67) #[] #[], .bool true] w fun e w' => ∃ z : Int, e = .returned (.int .i64 z) ∧ ((z = -1 ∧ DigL s.data.toList) ∨ (0 ≤ z ∧ ¬ DigL s.data.toList)) ∧ Below w.heap.size w w' := by
  go_enter Tryd.func85, Tryd.ntmps85
  go_wp2_with fail
  go_loopw [] (fun wr => ∃ (pos : Nat), wr = w.iter s pos ∧ Hid (pos ≤ s.size ∧ ∀ j (hj : j < s.size), j < pos → 48 ≤ (s[j]'hj).toNat ∧ (s[j]'hj).toNat ≤ 57)) (fun wr => s.size - wr.iterPos w.heap.size)
  case atStart => exact ⟨0, rfl, Lib.hid ⟨Nat.zero_le _, fun j _ h => absurd h (Nat.not_lt_zero _)⟩⟩
  case round =>
    obtain ⟨pos, rfl, HD⟩ := hrel
    by_cases hp : pos < s.size
    · have hnx := fun ty => run_next_any (P := Tryd.prog) w s pos ty hp
      have hwd := width_pos s pos hp
      have hr := decode_le s pos
      have HR := Lib.hid (rune_digit s pos hp)
      have HR2 := Lib.hid (digit_rune s pos hp)
      obtain ⟨r, hre⟩ : ∃ r, (Utf8.decode s pos).1 = r := ⟨_, rfl⟩
      obtain ⟨adv, hae⟩ : ∃ r, (Utf8.decode s pos).2 = r := ⟨_, rfl⟩
      have HRE := Lib.hid (And.intro hre hae)
      simp only [hre, hae] at hnx hr hwd
      have hC := bad_any r (w.iter s (pos + adv)) hr
      clear hre hae
      by_cases hb : r < 48 ∨ 57 < r
      · have e : decide (r < 48 ∨ 57 < r) = true := by simpa using hb
        rw [e] at hC
        have HB := Lib.hid hb
        clear hb e
        go_wp2_with fail
        refine hC.mono ?_
        rintro e w' ⟨rfl, rfl⟩
        go_wp2_with fail
        go_ret
        refine ⟨_, rfl, .inr ⟨by omega, fun h => ?_⟩, below_iter (Below.refl _ _) _ _⟩
        have h1 := h.get pos (by rw [← Lib.size_eq]; exact hp)
        rw [byte_list s pos hp] at h1
        have := HR2.out h1
        have h2 := HRE.out.1
        rw [this] at h2
        have := HB.out
        simp at h2
        omega
      · have e : decide (r < 48 ∨ 57 < r) = false := by simpa using hb
        rw [e] at hC
        have hd := HR.out (by rw [HRE.out.1]; exact hb)
        have had : adv = 1 := by rw [← HRE.out.2]; exact hd.2.1
        subst had
        have HDD := Lib.hid hd
        clear hb e hd hwd
        go_wp2_with fail
        refine hC.mono ?_
        rintro e w' ⟨rfl, rfl⟩
        go_wp2_with fail
        go_roundw
        case rel =>
          exact ⟨pos + 1, rfl, Lib.hid ⟨hp, fun j hj hjp => by
            rcases Nat.lt_or_ge j pos with h | h
            · exact HD.out.2 j hj h
            · obtain rfl : j = pos := by omega
              exact HDD.out.2.2⟩⟩
        case measure => simp; omega
    · have hnd := fun ty => run_next_end (P := Tryd.prog) w s pos ty hp
      have hdl : DigL s.data.toList := DigL.of_get fun j hj => by
        have hj' : j < s.size := by rw [Lib.size_eq]; exact hj
        have := HD.out.2 j hj' (by omega)
        rw [← byte_list s j hj'] at this
        exact this
      have HDL := Lib.hid hdl
      clear hdl
      go_wp2_with fail
      go_ret
      exact ⟨_, rfl, .inl ⟨rfl, HDL.out⟩, below_iter (Below.refl _ _) _ _⟩
theorem containsFunc_any (s : ByteArray) (w : World) (hs : s.size ≤ 9223372036854775807) :
    Calls Tryd.prog 66 #[.string s, .func (.func 67) #[] #[]] w fun e w' => ∃ b : Bool, e = .returned (.bool b) ∧ (b = false ↔ DigL s.data.toList) ∧ Below w.heap.size w w' := by
  have h1 : Calls Tryd.prog 80 #[.string s, .func (.func 67) #[] #[]] w fun e w' => ∃ z : Int, e = .returned (.int .i64 z) ∧ ((z = -1 ∧ DigL s.data.toList) ∨ (0 ≤ z ∧ ¬ DigL s.data.toList)) ∧ Below w.heap.size w w' := by
    have h := indexFunc_any s w hs
    go_enter Tryd.func80, Tryd.ntmps80
    go_wp2_with fail
    refine h.mono ?_
    rintro e w' ⟨z, rfl, hz, hb⟩
    have HZ := Lib.hid (And.intro hz hb)
    clear hz hb h
    go_wp2_with fail
    go_ret
    exact ⟨z, rfl, HZ.out⟩
  go_enter Tryd.func66, Tryd.ntmps66
  go_wp2_with fail
  refine h1.mono ?_
  rintro e w' ⟨z, rfl, hz, hb⟩
  have HB := Lib.hid hb
  clear hb h1
  rcases hz with ⟨rfl, hd⟩ | ⟨hz, hd⟩
  · go_wp2_with fail
    go_ret
    exact ⟨_, rfl, by simpa using hd, HB.out⟩
  · go_wp2_with fail
    go_ret
    exact ⟨_, rfl, by simp [hd], HB.out⟩
end Go.Proofs.YtjfjkabmpiebpaaDoor
