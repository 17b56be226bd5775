/-
  slices.Reverse of bytes.
-/
import Derived.Test.YtjfjkabmpiebpaaDoorNatBf
set_option linter.unusedSimpArgs false
set_option linter.unusedVariables false
namespace Go.Proofs.YtjfjkabmpiebpaaDoor
open Go.RowKit Go.Plumb

theorem rev2_facts (N i j : Nat) (hN : (N : Int) ≤ 1000000) (hj : N - 1 - i = j) (hi : i < N / 2) :
    j < N ∧ i < N ∧ (i : Int) < (j : Int) ∧ wrap64 ((i : Int) + 1) = ((i + 1 : Nat) : Int) ∧ wrap64 ((j : Int) - 1) = (N : Int) - 1 - ((i + 1 : Nat) : Int) ∧ i + 1 ≤ N / 2 ∧ (N : Int) - 1 - (i : Int) = (j : Int) :=
  ⟨by omega, by omega, by omega, (IntWalk.wrap64_in _ ⟨by omega, by omega⟩).trans (by omega), (IntWalk.wrap64_in _ ⟨by omega, by omega⟩).trans (by omega), by omega, by omega⟩
theorem grow_swap {w wr : World} {g i j : Nat} {a b : Value} (h : w.grownBy wr (some g)) : w.grownBy ((wr.drew.setCell ⟨g, i, none⟩ a).setCell ⟨g, j, none⟩ b) (some g) := by
  refine ⟨h.os, h.tape, h.output, ?_, fun k hk hne => ?_⟩
  · have s1 := (KeepsWalks.setCell wr.drew ⟨g, i, none⟩ a).size
    have s2 := (KeepsWalks.setCell (wr.drew.setCell ⟨g, i, none⟩ a) ⟨g, j, none⟩ b).size
    have s0 : wr.drew.heap.size = wr.heap.size := rfl
    have := h.size
    omega
  · have hne' : k ≠ g := fun e => hne (by rw [e])
    rw [Below.heap_setCell _ _ _ k hne', Below.heap_setCell _ _ _ k hne']
    exact h.block k hk hne
set_option maxRecDepth 20000 in
set_option maxHeartbeats 1000000 in
theorem reverse_pos (g N cap B : Nat) (bs : List UInt8) (w : World) (hO : OwnB w B (.slice (some ⟨g, 0, none⟩) N cap) bs) (hgB : B ≤ g) (hN : bs.length = N) (hNb : (N : Int) ≤ 1000000) (h0 : 0 < N) (hBw : B ≤ w.heap.size) :
    Calls Tryd.prog 64 #[.slice (some ⟨g, 0, none⟩) N cap] w fun e w' => e = .returned (.tuple #[]) ∧ OwnB w' B (.slice (some ⟨g, 0, none⟩) N cap) bs.reverse ∧ w.grownBy w' (some g) := by
  have HN := Lib.hid hN
  have HO := Lib.hid hO
  have HBw := Lib.hid hBw
  have fN : IntKind.i64.wrap ((N : Int) - 1) = (N : Int) - 1 := IntWalk.i64_in _ ⟨by omega, by omega⟩
  clear hN hO hBw
  go_enter Tryd.func64, Tryd.ntmps64
  go_wp2_with fail
  go_loopg [2, 3] N (fun k s2 s3 wr => ∃ (i : Nat) (cs : List UInt8), s2 = .int .i64 (i : Int) ∧ s3 = .int .i64 ((N : Int) - 1 - (i : Int)) ∧ i ≤ N / 2 ∧ k + i = N ∧ Hid (turnedAt bs cs i) ∧ Hid (OwnB wr B (.slice (some ⟨g, 0, none⟩) N cap) cs) ∧ Hid (w.grownBy wr (some g)))
  case atStart => exact ⟨0, bs, rfl, by simp, Nat.zero_le _, rfl, Lib.hid (turned_start bs), HO, Lib.hid ⟨rfl, rfl, rfl, Nat.le_refl _, fun _ _ _ => rfl⟩⟩
  case round =>
    obtain ⟨i, cs, rfl, rfl, hi, hk, hR, hownc, hBc⟩ := hrel
    by_cases hlt : i < N / 2
    · obtain ⟨j, hj⟩ : ∃ j, N - 1 - i = j := ⟨_, rfl⟩
      obtain ⟨gj, gi, gij, f1, f2, f3, fj⟩ := rev2_facts N i j hNb hj hlt
      rw [fj]
      have hcl : cs.length = N := by rw [hR.out.1, HN.out]
      have hci : cs[i]? = some (cs.getD i 0) := by rw [List.getElem?_eq_getElem (by omega)]; simp [List.getD, show i < cs.length by omega]
      have hcj : cs[j]? = some (cs.getD j 0) := by rw [List.getElem?_eq_getElem (by omega)]; simp [List.getD, show j < cs.length by omega]
      obtain ⟨x, hx⟩ : ∃ x, cs.getD i 0 = x := ⟨_, rfl⟩
      obtain ⟨y, hy⟩ : ∃ y, cs.getD j 0 = y := ⟨_, rfl⟩
      rw [hx] at hci
      rw [hy] at hcj
      obtain ⟨X, hX⟩ : ∃ X : Int, ((x.toNat : Nat) : Int) = X := ⟨_, rfl⟩
      obtain ⟨Y, hY⟩ : ∃ Y : Int, ((y.toNat : Nat) : Int) = Y := ⟨_, rfl⟩
      have vX : Value.int .u8 X = byteV x := by rw [← hX]; rfl
      have vY : Value.int .u8 Y = byteV y := by rw [← hY]; rfl
      have hc1 : wr.cell? ⟨g, i, none⟩ = some (.int .u8 X) := by rw [vX]; exact OwnB.cell hownc.out i x hci
      have hc2 : wr.cell? ⟨g, j, none⟩ = some (.int .u8 Y) := by rw [vY]; exact OwnB.cell hownc.out j y hcj
      have hf1 := OwnB.thaw hownc.out i
      have hf2 := OwnB.thaw hownc.out j
      have hst := turned_step hR.out (by rw [HN.out]; exact hlt)
      rw [HN.out, hj, hx, hy] at hst
      have HST := Lib.hid hst
      have HO2 := Lib.hid (OwnB.store (OwnB.store (show OwnB wr.drew _ _ _ from World.ownsRow.drew hownc.out) i y _ vY) j x _ vX)
      have HB2 := Lib.hid (grow_swap (i := i) (j := j) (a := .int .u8 Y) (b := .int .u8 X) hBc.out)
      have HF := Lib.hid (And.intro f1 (And.intro f2 (And.intro f3 hk)))
      clear hNb hlt hj hcl hci hcj hx hy hst hX hY vX vY f1 f2 f3 hi hk fN
      go_wp2_with fail
      go_region
      go_wp2_with fail
      go_roundg (N - (i + 1))
      case rel => exact ⟨i + 1, _, by rw [HF.out.1], by rw [HF.out.2.1], HF.out.2.2.1, by have := HF.out.2.2.1; omega, HST, HO2, HB2⟩
      case measure => have := HF.out.2.2; omega
    · have hall := turned_end hR.out (by rw [HN.out]; omega)
      subst hall
      have fi : ¬ ((i : Int) < (N : Int) - 1 - (i : Int)) := by omega
      have HBc := Lib.hid hBc.out
      clear hk hi hlt fN
      go_wp2_with fail
      go_end0
      exact ⟨rfl, hownc.out, hBc.out⟩
set_option maxHeartbeats 1000000 in
theorem reverse_none (a : Option Addr) (cap : Nat) (w : World) :
    Calls Tryd.prog 64 #[.slice a 0 cap] w fun e w' => e = .returned (.tuple #[]) ∧ w = w' := by
  go_enter Tryd.func64, Tryd.ntmps64
  go_wp2_with fail
  go_loopg [2, 3] 0 (fun _ s2 s3 wr => s2 = .int .i64 0 ∧ s3 = .int .i64 (-1) ∧ w = wr)
  case atStart => exact ⟨rfl, rfl, rfl⟩
  case round =>
    obtain ⟨rfl, rfl, rfl⟩ := hrel
    go_wp2_with fail
    go_end0
    exact ⟨rfl, rfl⟩
theorem reverse_own (B : Nat) (v : Value) (bs : List UInt8) (w : World) (hO : OwnB w B v bs) (hN : bs.length ≤ 1000000) (hBw : B ≤ w.heap.size) :
    Calls Tryd.prog 64 #[v] w fun e w' => e = .returned (.tuple #[]) ∧ OwnB w' B v bs.reverse ∧ w.grownBy w' v.ownBlock := by
  by_cases h0 : 0 < bs.length
  · obtain ⟨g, cap, rfl, hg, _, _, _⟩ := OwnB.pos hO h0
    exact reverse_pos g bs.length cap B bs w hO hg rfl (by omega) h0 hBw
  · obtain rfl : bs = [] := List.eq_nil_of_length_eq_zero (by omega)
    obtain ⟨a, c, rfl⟩ := OwnB.shape hO
    refine (reverse_none a c w).mono ?_
    rintro e w' ⟨rfl, rfl⟩
    exact ⟨rfl, hO, ⟨rfl, rfl, rfl, Nat.le_refl _, fun _ _ _ => rfl⟩⟩
end Go.Proofs.YtjfjkabmpiebpaaDoor
