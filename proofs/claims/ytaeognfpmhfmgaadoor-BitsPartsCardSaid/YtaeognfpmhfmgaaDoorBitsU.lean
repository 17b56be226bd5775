/-
  Walks: bits.Text, Read; the reference's.
-/
import Derived.Test.YtaeognfpmhfmgaaDoorBitsT
set_option linter.unusedSimpArgs false
set_option linter.unusedVariables false
namespace Go.Plumb
/-- A digit's byte. -/
def hexd (n : Int) : Int := if n < 10 then 48 + n else 55 + n
def textL (x : Int) : List UInt8 := (List.range 16).map fun i => UInt8.ofNat (hexd (x / 2 ^ (60 - 4 * i) % 16)).toNat
/-- A word's text. -/
def textB (x : Int) : ByteArray := ⟨(textL x).toArray⟩
def texCells (x : Int) (k : Nat) : Array Value := ((List.range 16).map fun i => if i < k then Value.int .u8 (hexd (x / 2 ^ (60 - 4 * i) % 16)) else .int .u8 0).toArray
theorem texCells_size (x : Int) (k : Nat) : (texCells x k).size = 16 := by simp [texCells]
theorem texCells_at (x : Int) (k : Nat) (hk : k < 16) : (texCells x k)[k]? = some (.int .u8 0) := by simp [texCells, hk]
theorem texCells_succ (x : Int) (k : Nat) (hk : k < 16) : (texCells x k).setIfInBounds k (.int .u8 (hexd (x / 2 ^ (60 - 4 * k) % 16))) = texCells x (k + 1) := by
  apply Array.ext
  · simp [texCells]
  · intro i h1 h2
    rw [Array.getElem_setIfInBounds (by simpa using h1)]
    simp only [texCells, List.getElem_toArray, List.getElem_map, List.getElem_range]
    by_cases h : k = i
    · subst h; simp
    · rw [if_neg h]
      by_cases h3 : i < k
      · rw [if_pos h3, if_pos (by omega)]
      · rw [if_neg h3, if_neg (by omega)]
theorem texCells_full (x : Int) (j : Nat) (hj : j < (textL x).length) : (texCells x 16)[j]? = some (.int .u8 ((textL x)[j].toNat : Int)) := by
  have h16 : j < 16 := by simpa [textL] using hj
  simp only [texCells, textL, List.getElem_map, List.getElem_range]
  simp only [List.getElem?_toArray, List.getElem?_map, List.getElem?_range h16, Option.map_some, if_pos h16]
  have hb : 0 ≤ x / 2 ^ (60 - 4 * j) % 16 ∧ x / 2 ^ (60 - 4 * j) % 16 < 16 := by omega
  generalize x / 2 ^ (60 - 4 * j) % 16 = d at hb
  congr 2
  have hh : 0 ≤ hexd d ∧ hexd d < 256 := by unfold hexd; split <;> omega
  have : (UInt8.ofNat (hexd d).toNat).toNat = (hexd d).toNat := by
    rw [UInt8.toNat_ofNat']; omega
  rw [this]; omega
theorem textL_length (x : Int) : (textL x).length = 16 := by simp [textL]
end Go.Plumb
namespace Go.Proofs.YtaeognfpmhfmgaaDoor
open Go.RowKit Go.Plumb

theorem run_digit (d : Int) (h0 : 0 ≤ d) (h1 : d < 16) (w : World) : (Instr.index 9 (.string ⟨#[48, 49, 50, 51, 52, 53, 54, 55, 56, 57, 65, 66, 67, 68, 69, 70]⟩) (.int .u64 d)).run Tryd.prog w = .ok (.int .u8 (hexd d)) w := by
  rcases (by omega : d = 0 ∨ d = 1 ∨ d = 2 ∨ d = 3 ∨ d = 4 ∨ d = 5 ∨ d = 6 ∨ d = 7 ∨ d = 8 ∨ d = 9 ∨ d = 10 ∨ d = 11 ∨ d = 12 ∨ d = 13 ∨ d = 14 ∨ d = 15) with rfl | rfl | rfl | rfl | rfl | rfl | rfl | rfl | rfl | rfl | rfl | rfl | rfl | rfl | rfl | rfl
  all_goals kernel_rfl
theorem run_digit_i (d : Int) (h0 : 0 ≤ d) (h1 : d < 16) (w : World) : (Instr.index 9 (.string ⟨#[48, 49, 50, 51, 52, 53, 54, 55, 56, 57, 65, 66, 67, 68, 69, 70]⟩) (.int .i64 d)).run Tryd.prog w = .ok (.int .u8 (hexd d)) w := by
  rcases (by omega : d = 0 ∨ d = 1 ∨ d = 2 ∨ d = 3 ∨ d = 4 ∨ d = 5 ∨ d = 6 ∨ d = 7 ∨ d = 8 ∨ d = 9 ∨ d = 10 ∨ d = 11 ∨ d = 12 ∨ d = 13 ∨ d = 14 ∨ d = 15) with rfl | rfl | rfl | rfl | rfl | rfl | rfl | rfl | rfl | rfl | rfl | rfl | rfl | rfl | rfl | rfl
  all_goals kernel_rfl

set_option maxHeartbeats 1000000 in
theorem text_any (x : Int) (w : World) (h0 : 0 ≤ x) (h1 : x < 18446744073709551616) :
    Calls Tryd.prog 44 #[.int .u64 x] w fun e w' => e = .returned (.string (textB x)) ∧ Below w.heap.size w w' := by
  go_enter Tryd.func44, Tryd.ntmps44
  go_wp2_with fail
  go_loopw [5] (fun v5 wr => ∃ k : Nat, k ≤ 16 ∧ v5 = .int .i64 k ∧ wr = w.alloc (.cells (texCells x k) 71)) (fun v5 _ => (16 - intOf v5).toNat)
  case atStart => exact ⟨0, by omega, rfl, rfl⟩
  case round =>
    obtain ⟨k, hk, rfl, rfl⟩ := hrel
    by_cases hlt : k < 16
    · have hx0 : 0 ≤ x / 2 ^ (60 - 4 * k) := Int.ediv_nonneg h0 (Int.le_of_lt (Int.pow_pos (by decide)))
      have hx1 : x / 2 ^ (60 - 4 * k) < 18446744073709551616 := by
        have := Int.ediv_le_self (2 ^ (60 - 4 * k)) h0; omega
      have e1 := and_15 hx0 hx1
      have hcell := texCells_at x k hlt
      have HS := Lib.hid (texCells_succ x k hlt)
      have hd := run_digit (x / 2 ^ (60 - 4 * k) % 16) (by omega) (by omega)
      clear hx0 hx1
      go_wp2_with fail
      go_roundw
      case rel => exact ⟨k + 1, by omega, by go_num, by rw [HS.out]⟩
      case measure => simp [intOf]; omega
    · obtain rfl : k = 16 := by omega
      have hconv : (convert 72 9 (.slice (some ⟨w.heap.size, 0, none⟩) 16 16)).run Tryd.prog (w.alloc (.cells (texCells x 16) 71)) = .ok (.string (textB x)) (w.alloc (.cells (texCells x 16) 71)) := by
        have := run_convert_bytes_back (P := Tryd.prog) (w.alloc (.cells (texCells x 16) 71)) 72 9 5 ⟨w.heap.size, 0, none⟩ 16 (textL x) Tryd.underlying72 Tryd.underlying5 Tryd.underlying9 (fun j hj => by
          rw [show (⟨w.heap.size, 0, none⟩ : Addr).add j = ⟨w.heap.size, j, none⟩ by (unfold Addr.add; split <;> simp_all), World.cell?_alloc_at (hn := rfl)]
          exact texCells_full x j hj)
        rw [textL_length] at this
        exact this
      go_wp2_with fail
      go_ret
      exact ⟨rfl, by (repeat' (first | exact Below.refl _ _ | assumption | (refine below_alloc ?_ _) | (refine Below.setCell ?_ ?_ _) | (refine Below.drew ?_) | (refine below_drewN ?_ _))) <;> (first | (simp; done) | (simp; omega) | omega)⟩

end Go.Proofs.YtaeognfpmhfmgaaDoor
