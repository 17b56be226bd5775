/-
  How a dyad that was handed in is opened.
-/
import Derived.Test.YtjlaadadbpffdaaGreatDoorDyFr
set_option linter.unusedSimpArgs false
set_option linter.unusedVariables false
namespace Go.Proofs.YtjlaadadbpffdaaGreatDoor
open Go.ChangeShapes Go.WideShapes Go.ChangeAt Go.RowKit Go.Plumb
set_option maxRecDepth 100000 in
theorem nat_of_trod {H : Type} {enc : TypeId × Value → H} {W : World} {sp : Nat → Bool} {v : Value} {x : DataW H × List MemPlace} {fuel : Nat}
    (hf : DataW.trod enc Tryz.prog W 0 sp true fuel 22 [v] = some x) : ∃ (a : Option Addr) (n c : Nat) (l : List Nat), v = .slice a n c ∧ Num W a n c l := by
  rcases open_ints Tryz.underlying22 Tryz.underlying31 cellsU64 hf with ⟨hcs, hx⟩ | ⟨a, len, cap, zs, hcs, _, hl, hm, hz, hx, hcell, hwz⟩
  · simp at hcs
    subst hcs
    exact ⟨none, 0, 0, [], rfl, Num.nil _⟩
  · simp at hcs
    subst hcs
    have hlen : len ≤ zs.length := by rw [hz]; split <;> omega
    have hb : ∀ j, 0 ≤ zs.getD j 0 ∧ zs.getD j 0 < 18446744073709551616 := by
      intro j
      by_cases hj : j < zs.length
      · have h := bounds_u64 (hwz (zs[j]) (List.getElem_mem hj))
        simp [List.getD, hj]
        omega
      · simp [List.getD, List.getElem?_eq_none (Nat.le_of_not_lt hj)]
    refine ⟨some a, len, cap, (zs.take len).map Int.toNat, rfl, by simp; omega, by simp; omega, hm, ?_, fun j hj => ?_⟩
    · intro x hx
      obtain ⟨z, hz', rfl⟩ := List.mem_map.1 hx
      obtain ⟨i, hi, rfl⟩ := List.getElem_of_mem (List.mem_of_mem_take hz')
      have := hb i
      simp [List.getD, hi] at this
      omega
    · have hj2 : j < len := by simp at hj; omega
      have hc := hcell j (by omega)
      have h0 := hcell 0 (by omega)
      obtain ⟨b, off, spot⟩ := a
      have hspot : spot = none := by simpa [Addr.add] using World.cell?_spot h0
      subst hspot
      refine ⟨b, off, rfl, ?_⟩
      have e2 : Addr.add ⟨b, off, none⟩ j = ⟨b, off + j, none⟩ := by unfold Addr.add; split <;> simp_all
      rw [e2] at hc
      rw [hc]
      have := hb j
      have e3 : ((zs.take len).map Int.toNat).getD j 0 = (zs.getD j 0).toNat := by
        simp [List.getD, hj2, show j < zs.length by omega]
      rw [e3, Int.toNat_of_nonneg this.1]
set_option maxRecDepth 100000 in
/-- A dyad that was handed in. -/
theorem open_dyad {H : Type} {enc : TypeId × Value → H} {W : World} {sp : Nat → Bool} {v : Value} {d : DataW H} {p : List MemPlace} {r : Reach} {b0 : Nat}
    (hval : Value.okWide Tryz.prog W r b0 24 v) (h : DataW.Trod enc Tryz.prog W 0 sp true 24 v d p) :
    ∃ (s : Bool) (a : Option Addr) (n c : Nat) (l : List Nat) (e : Int), v = .agg #[.bool s, .slice a n c, .int .i64 e] ∧ Num W a n c l ∧ -9223372036854775808 ≤ e ∧ e ≤ 9223372036854775807 := by
  obtain ⟨c0, c1, c2, y0, y1, y2, m, rfl, _, _, k0, k1, k2⟩ := Go.Joins.open_agg3 Tryz.underlying24 (by kernel_rfl) (by kernel_rfl) hval h
  obtain ⟨s, e0, _⟩ := DataW.trod_bool Tryz.underlying4 k0
  obtain ⟨a, n, c, l, rfl, hN⟩ := nat_of_trod k1
  obtain ⟨e, e2, _, w2⟩ := DataW.trod_int Tryz.underlying3 k2
  obtain rfl : c0 = .bool s := by simpa using e0
  obtain rfl : c2 = .int .i64 e := by simpa using e2
  have hb := bounds_i64 w2
  exact ⟨s, a, n, c, l, e, rfl, hN, by omega, by omega⟩
end Go.Proofs.YtjlaadadbpffdaaGreatDoor
