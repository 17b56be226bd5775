/-
  How a list of dyads that was handed in is opened.
-/
import Derived.Test.YtjlaadadbpffdaaGreatDoorDyFs
import Derived.Test.YtjlaadadbpffdaaGreatDoorDbS
import Derived.Deep.Slices
import Derived.Deep.Strs
import Derived.Lib.SmallJoins
set_option linter.unusedSimpArgs false
set_option linter.unusedVariables false
namespace Go.Plumb
open Go.RowKit
/-- A list of dyads: where it lies, and all that it leads to. -/
structure ListD (w : World) (q : Option Addr) (g off N C : Nat) (s : Nat → Bool) (a : Nat → Option Addr) (n c : Nat → Nat) (L : Nat → List Nat) (e : Nat → Int) : Prop where
  at0 : 0 < N → q = some ⟨g, off, none⟩
  le : N ≤ C
  max : C ≤ maxLen
  row : RowD w g off N s a n c e
  num : ∀ i, i < N → Num w (a i) (n i) (c i) (L i)
  exp : ∀ i, i < N → -9223372036854775808 ≤ e i ∧ e i ≤ 9223372036854775807
end Go.Plumb
namespace Go.Proofs.YtjlaadadbpffdaaGreatDoor
open Go.ChangeShapes Go.WideShapes Go.ChangeAt Go.RowKit Go.Plumb Go.Deep
set_option maxRecDepth 100000 in
set_option maxHeartbeats 1000000 in
theorem open_dyads {H : Type} {enc : TypeId × Value → H} {W : World} {sp : Nat → Bool} {v : Value} {d : DataW H} {p : List MemPlace} {r : Reach} {b0 : Nat}
    (hval : Value.okWide Tryz.prog W r b0 54 v) (h : DataW.Trod enc Tryz.prog W 0 sp true 54 v d p) :
    ∃ (q : Option Addr) (g off N C : Nat) (s : Nat → Bool) (a : Nat → Option Addr) (n c : Nat → Nat) (L : Nat → List Nat) (e : Nat → Int), v = .slice q N C ∧ ListD W q g off N C s a n c L e := by
  obtain ⟨a0, len, cap, rfl⟩ := Go.WideShapes.okWide_slice (P := Tryz.prog) (t := 54) Tryz.underlying54 hval
  obtain ⟨fuel, hf⟩ := h
  have hC3 : Tryz.prog.cellsOf 24 = 3 := by kernel_rfl
  rcases open_slice Tryz.underlying54 hf with ⟨hcs, hx⟩ | ⟨a, len', cap', m, n, D, Pl, hcs, _, hl, hm, hmm, hx, hel⟩
  · simp [Value.cells] at hcs
    obtain ⟨rfl, rfl, rfl⟩ := hcs
    exact ⟨none, 0, 0, 0, 0, fun _ => false, fun _ => none, fun _ => 0, fun _ => 0, fun _ => [], fun _ => 0, rfl, fun h => absurd h (Nat.lt_irrefl 0), Nat.le_refl _, Nat.zero_le _, fun i h => absurd h (Nat.not_lt_zero _), fun i h => absurd h (Nat.not_lt_zero _), fun i h => absurd h (Nat.not_lt_zero _)⟩
  · simp [Value.cells] at hcs
    obtain ⟨rfl, rfl, rfl⟩ := hcs
    have hlm : len ≤ m := by rw [hmm]; split <;> omega
    have each : ∀ i, i < len → ∃ z : Bool × Option Addr × Nat × Nat × List Nat × Int, W.cell? (a.add (i * 3)) = some (.bool z.1) ∧ W.cell? (a.add (i * 3 + 1)) = some (.slice z.2.1 z.2.2.1 z.2.2.2.1) ∧ W.cell? (a.add (i * 3 + 2)) = some (.int .i64 z.2.2.2.2.2) ∧ Num W z.2.1 z.2.2.1 z.2.2.2.1 z.2.2.2.2.1 ∧ -9223372036854775808 ≤ z.2.2.2.2.2 ∧ z.2.2.2.2.2 ≤ 9223372036854775807 := by
      intro i hi
      obtain ⟨cs', h1, h2⟩ := hel i (by omega)
      rw [hC3] at h1
      obtain ⟨_, hlen, hcell⟩ := World.cells?_some h1
      obtain ⟨y0, y1, y2, k, _, _, g0, g1, g2⟩ := Go.Deep.trod_struct3 Tryz.underlying24 h2
      match cs', hlen with
      | [v0, v1, v2], _ =>
        have e0 := hcell 0 (by omega)
        have e1 := hcell 1 (by omega)
        have e2 := hcell 2 (by omega)
        rw [add_add] at e0 e1 e2
        have q0 : DataW.trod enc Tryz.prog W 0 sp true k 4 [v0] = some y0 := g0
        have q1 : DataW.trod enc Tryz.prog W 0 sp true k 22 [v1] = some y1 := g1
        have q2 : DataW.trod enc Tryz.prog W 0 sp true k 3 [v2] = some y2 := g2
        obtain ⟨s, f0, _⟩ := DataW.trod_bool Tryz.underlying4 q0
        obtain ⟨aa, n, c, l, rfl, hN⟩ := nat_of_trod q1
        obtain ⟨e, f2, _, w2⟩ := DataW.trod_int Tryz.underlying3 q2
        obtain rfl : v0 = .bool s := by simpa using f0
        obtain rfl : v2 = .int .i64 e := by simpa using f2
        have hb := bounds_i64 w2
        exact ⟨(s, aa, n, c, l, e), by simpa using e0, by simpa using e1, by simpa using e2, hN, by show (-9223372036854775808 : Int) ≤ e; omega, by show e ≤ (9223372036854775807 : Int); omega⟩
    obtain ⟨z, hz⟩ := choose_lt each
    by_cases h0 : len = 0
    · subst h0
      exact ⟨some a, 0, 0, 0, cap, fun _ => false, fun _ => none, fun _ => 0, fun _ => 0, fun _ => [], fun _ => 0, rfl, fun h => absurd h (Nat.lt_irrefl 0), Nat.zero_le _, hm, fun i h => absurd h (Nat.not_lt_zero _), fun i h => absurd h (Nat.not_lt_zero _), fun i h => absurd h (Nat.not_lt_zero _)⟩
    · have c0 := (hz 0 (by omega)).1
      obtain ⟨b, off, spot⟩ := a
      have hspot : spot = none := by simpa [Addr.add] using World.cell?_spot c0
      subst hspot
      have ea : ∀ j, Addr.add ⟨b, off, none⟩ j = ⟨b, off + j, none⟩ := fun j => by unfold Addr.add; split <;> simp_all
      refine ⟨some ⟨b, off, none⟩, b, off, len, cap, fun i => (z i).1, fun i => (z i).2.1, fun i => (z i).2.2.1, fun i => (z i).2.2.2.1, fun i => (z i).2.2.2.2.1, fun i => (z i).2.2.2.2.2, rfl, fun _ => rfl, hl, hm, fun i hi => ?_, fun i hi => (hz i hi).2.2.2.1, fun i hi => (hz i hi).2.2.2.2⟩
      have hh := hz i hi
      rw [ea, ea, ea] at hh
      exact ⟨hh.1, by simpa [Nat.add_assoc] using hh.2.1, by simpa [Nat.add_assoc] using hh.2.2.1⟩
end Go.Proofs.YtjlaadadbpffdaaGreatDoor
