/-
  Walks: math/bits.Len64, LeadingZeros64, TrailingZeros64; the table in a world.
-/
import Derived.Test.YtjlaadadbpffdaaGreatDoorBase
import Derived.Test.YtjlaadadbpffdaaGreatDoorShelfBits
set_option linter.unusedSimpArgs false
set_option linter.unusedVariables false
namespace Go.Proofs.YtjlaadadbpffdaaGreatDoor
open Go.RowKit Go.Plumb

theorem len64_any (x : Int) (w : World) (h0 : 0 ≤ x) (h1 : x < 18446744073709551616) :
    Calls Tryz.prog 154 #[.int .u64 x] w fun e w' => e = .returned (.int .i64 (lenI x)) ∧ w = w' :=
  (Tryz.bits_Len64 x w h0 (by omega)).mono fun e w' ⟨h, k⟩ => ⟨by rw [h, bitLen_lenN _ (by omega)]; rfl, k.symm⟩
theorem lz64_any (x : Int) (w : World) (h0 : 0 ≤ x) (h1 : x < 18446744073709551616) :
    Calls Tryz.prog 135 #[.int .u64 x] w fun e w' => e = .returned (.int .i64 (64 - lenI x)) ∧ w = w' :=
  (Tryz.bits_LeadingZeros64 x w h0 (by omega)).mono fun e w' ⟨h, k⟩ => ⟨by rw [h, bitLen_lenN _ (by omega)]; rfl, k.symm⟩

/-- The library's table of trailing noughts lies in its variable. -/
def Tab (w : World) : Prop := ∀ j, j < 64 → w.cell? ⟨3, j, none⟩ = some (.int .u8 (Lib.deBruijn64tab.getD j 0))
theorem Tab.below {w w' : World} (h : Tab w) (hb : Below w.heap.size w w') : Tab w' := by
  intro j hj
  have := h j hj
  rw [hb.cell (p := ⟨3, j, none⟩)]
  · exact this
  · apply Nat.lt_of_not_le
    intro hle
    have e : w.heap[(3 : Nat)]? = none := Array.getElem?_eq_none hle
    simp [World.cell?, e] at this
theorem Tab.drewN {w : World} (h : Tab w) (n : Nat) : Tab (w.drewN n) := h.below (below_drewN (Below.refl _ _) n)

set_option maxHeartbeats 400000 in
theorem tz64_core (x k idx : Nat) (w : World) (hx0 : ((x : Int) == 0) = false)
    (key : IntKind.u64.wrap (bits BinOp.and IntKind.u64 (x : Int) (IntKind.u64.wrap (-(x : Int))) * 285870213051353865) / 288230376151711744 = (idx : Int))
    (hi : idx < 64) (hk : k < 64) (hcell : w.cell? ⟨3, idx, none⟩ = some (.int .u8 k)) :
    Calls Tryz.prog 169 #[.int .u64 x] w fun e w' => e = .returned (.int .i64 k) ∧ w = w' := by
  go_enter Tryz.func169, Tryz.ntmps169
  go_wp2_with (simp only [key])
  go_ret
  exact ⟨rfl, rfl⟩
theorem tz64_zero (w : World) : Calls Tryz.prog 169 #[.int .u64 0] w fun e w' => e = .returned (.int .i64 64) ∧ w = w' := by
  go_enter Tryz.func169, Tryz.ntmps169
  go_wp2
  go_ret
  exact ⟨rfl, rfl⟩
theorem tz64_key (x a : Nat) (hx : x < 18446744073709551616) (hx0 : x ≠ 0) (hlow : x &&& (18446744073709551616 - x) = a) :
    IntKind.u64.wrap (bits BinOp.and IntKind.u64 (x : Int) (IntKind.u64.wrap (-(x : Int))) * 285870213051353865) / 288230376151711744 = ((a * 285870213051353865 % 18446744073709551616 / 288230376151711744 : Nat) : Int) := by
  have e1 : IntKind.u64.wrap (-(x : Int)) = ((18446744073709551616 - x : Nat) : Int) := by rw [IntKind.wrap_u64]; omega
  rw [e1, bits_and_u64_nat x _ hx (by omega), hlow, IntKind.wrap_u64]
  omega
theorem tz64_any (x : Int) (w : World) (h0 : 0 ≤ x) (h1 : x < 18446744073709551616) (hT : Tab w) :
    Calls Tryz.prog 169 #[.int .u64 x] w fun e w' => e = .returned (.int .i64 (Lib.ctz 64 x.toNat)) ∧ w = w' := by
  obtain ⟨n, rfl, hn⟩ := nat64 h0 h1
  by_cases hx0 : n = 0
  · subst hx0
    exact tz64_zero w
  · obtain ⟨hlow, hk⟩ := Lib.lowest_bit 64 n hx0 hn
    obtain ⟨hi, htab⟩ := Lib.deBruijn64_at _ hk
    have hc := hT _ hi
    rw [htab] at hc
    have e : (n : Int).toNat = n := by omega
    rw [e]
    exact tz64_core n _ _ w (by simp; omega) (tz64_key n _ hn hx0 hlow) hi hk hc

end Go.Proofs.YtjlaadadbpffdaaGreatDoor
