/-
  The law package's small: are the numbers of a list all within some places?
-/
import Derived.Test.YtjlaadadbpffdaaGreatDoorDyN
set_option linter.unusedSimpArgs false
set_option linter.unusedVariables false
namespace Go.Plumb
open Go.RowKit
/-- A list's dyads lie in a block: the i-th one's three cells. -/
def RowD (w : World) (g off : Nat) (N : Nat) (s : Nat → Bool) (a : Nat → Option Addr) (n c : Nat → Nat) (e : Nat → Int) : Prop :=
  ∀ i, i < N → w.cell? ⟨g, off + i * 3, none⟩ = some (.bool (s i)) ∧ w.cell? ⟨g, off + i * 3 + 1, none⟩ = some (.slice (a i) (n i) (c i)) ∧ w.cell? ⟨g, off + i * 3 + 2, none⟩ = some (.int .i64 (e i))
def okD (n : Nat → Nat) (e : Nat → Int) (i : Nat) : Prop := n i ≤ 4 ∧ -2000 ≤ e i ∧ e i ≤ 2000
/-- What small answers. -/
def SmallV (N : Nat) (n : Nat → Nat) (e : Nat → Int) (v : Value) : Prop := ∃ bl, v = .bool bl ∧ (bl = true ↔ ((∀ i, i < N → okD n e i) ∧ N ≤ 30))
theorem SmallV.no {N : Nat} {n : Nat → Nat} {e : Nat → Int} {i : Nat} (hi : i < N) (h : ¬ okD n e i) : SmallV N n e (.bool false) := ⟨false, rfl, by simp; intro h'; exact absurd (h' i hi) h⟩
end Go.Plumb
namespace Go.Proofs.YtjlaadadbpffdaaGreatDoor
open Go.RowKit Go.Plumb
set_option maxHeartbeats 2000000 in
theorem small_any (w : World) (g off N C : Nat) (s : Nat → Bool) (a : Nat → Option Addr) (n c : Nat → Nat) (e : Nat → Int) (hN : N ≤ C) (hC : C ≤ maxLen) (hR : RowD w g off N s a n c e) (hn : ∀ i, i < N → n i ≤ 9223372036854775807) :
    Calls Tryz.prog 45 #[.slice (some ⟨g, off, none⟩) N C] w fun x w' => ∃ v, x = .returned v ∧ SmallV N n e v ∧ w = w' := by
  have hmx : (N : Int) ≤ 9223372036854775807 := by unfold maxLen at hC; omega
  have HR := Lib.hid hR
  have HN := Lib.hid hn
  clear hR hn
  go_enter Tryz.func45, Tryz.ntmps45
  go_wp2_with fail
  go_loopw [3] (fun v wr => ∃ i : Nat, v = .int .i64 (i : Int) ∧ wr = w ∧ Hid (i ≤ N ∧ ∀ j, j < i → okD n e j)) (fun v _ => N - (intOf v).toNat)
  case atStart => exact ⟨0, rfl, rfl, Lib.hid ⟨Nat.zero_le _, fun j h => by omega⟩⟩
  case round =>
    obtain ⟨i, rfl, rfl, hi⟩ := hrel
    by_cases hlt : i < N
    · obtain ⟨c0, c1, c2⟩ := HR.out i hlt
      have z1 : (0 : Int) ≤ (i : Int) := by omega
      have z2 : (i : Int) < (N : Int) := by omega
      obtain ⟨ni, hni⟩ : ∃ ni, n i = ni := ⟨_, rfl⟩
      obtain ⟨ei, hei⟩ : ∃ ei, e i = ei := ⟨_, rfl⟩
      have hnm := HN.out i hlt
      rw [hni] at c1 hnm
      rw [hei] at c2
      have HI := Lib.hid (And.intro hni (And.intro hei hlt))
      clear hni hei hlt
      by_cases q1 : (4 : Int) < (ni : Int)
      · go_wp2_with fail
        go_ret
        exact ⟨_, rfl, SmallV.no HI.out.2.2 (fun h => by have := h.1; rw [HI.out.1] at this; omega), rfl⟩
      · by_cases q2 : ei < -2000
        · go_wp2_with fail
          go_ret
          exact ⟨_, rfl, SmallV.no HI.out.2.2 (fun h => by have := h.2.1; rw [HI.out.2.1] at this; omega), rfl⟩
        · by_cases q3 : 2000 < ei
          · go_wp2_with fail
            go_ret
            exact ⟨_, rfl, SmallV.no HI.out.2.2 (fun h => by have := h.2.2; rw [HI.out.2.1] at this; omega), rfl⟩
          · have hok : okD n e i := ⟨by rw [HI.out.1]; omega, by rw [HI.out.2.1]; omega, by rw [HI.out.2.1]; omega⟩
            have HO := Lib.hid hok
            clear hok
            go_wp2_with fail
            refine ⟨⟨i + 1, by go_num, trivial, Lib.hid ⟨HI.out.2.2, fun j hj => ?_⟩⟩, by simp [intOf]; have := HI.out.2.2; omega⟩
            by_cases hji : j = i
            · rw [hji]; exact HO.out
            · exact hi.out.2 j (by omega)
    · have hiN : i = N := by have := hi.out.1; omega
      have HA := Lib.hid hi.out.2
      clear hi hlt
      subst hiN
      by_cases q : (i : Int) ≤ 30
      · have hd : decide ((i : Int) ≤ 30) = true := decide_eq_true q
        have HQ := Lib.hid q
        clear q
        go_wp2_with fail
        go_ret
        exact ⟨_, rfl, ⟨true, by first | rfl | simp [hd], by simp; exact ⟨HA.out, by have := HQ.out; omega⟩⟩, rfl⟩
      · have hd : decide ((i : Int) ≤ 30) = false := decide_eq_false q
        have HQ := Lib.hid q
        clear q
        go_wp2_with fail
        go_ret
        exact ⟨_, rfl, ⟨false, by first | rfl | simp [hd], by simp; intro _; have := HQ.out; omega⟩, rfl⟩
end Go.Proofs.YtjlaadadbpffdaaGreatDoor
