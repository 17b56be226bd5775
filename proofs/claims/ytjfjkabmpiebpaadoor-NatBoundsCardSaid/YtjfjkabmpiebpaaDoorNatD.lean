/-
  math/bits.Add64, Sub64; nat.Add's closure.
-/
import Derived.Test.YtjfjkabmpiebpaaDoorNatC
import Derived.Laws.Externs
set_option linter.unusedSimpArgs false
set_option linter.unusedVariables false
namespace Go.Plumb
open Go.RowKit
def sub64Entry : Array Value → Sem Value := fun args => do
  let (x, y, b) ← Extern.MathBitsCarry.three "Sub64" args
  pure (Extern.MathBitsCarry.pair ((x + Extern.MathBitsCarry.m64 - y - b) % Extern.MathBitsCarry.m64) (if x < y + b then 1 else 0))
/-- The borrow. -/
def borrowI (x y c : Int) : Int := if x < y + c then 1 else 0
theorem run_sub64 {P : Program} (x y c : Int) (hx : 0 ≤ x) (hy : 0 ≤ y) (hy1 : y < 18446744073709551616) (hc0 : 0 ≤ c) (hc : c ≤ 1) (w : World) :
    (sub64Entry #[.int .u64 x, .int .u64 y, .int .u64 c]).run P w = .ok (.tuple #[.int .u64 ((x - y - c) % 18446744073709551616), .int .u64 (borrowI x y c)]) w := by
  have key : ∀ k : Nat, k ≤ 1 → (sub64Entry #[.int .u64 x, .int .u64 y, .int .u64 (k : Int)]).run P w =
      .ok (Extern.MathBitsCarry.pair ((x.toNat + Extern.MathBitsCarry.m64 - y.toNat - k) % Extern.MathBitsCarry.m64) (if x.toNat < y.toNat + k then 1 else 0)) w := by
    intro k hk
    have : k = 0 ∨ k = 1 := by omega
    rcases this with rfl | rfl <;> rfl
  obtain ⟨k, rfl⟩ := Int.eq_ofNat_of_zero_le hc0
  rw [key k (by omega)]
  obtain ⟨X, rfl⟩ := Int.eq_ofNat_of_zero_le hx
  obtain ⟨Y, rfl⟩ := Int.eq_ofNat_of_zero_le hy
  simp only [Extern.MathBitsCarry.pair, Extern.MathBitsCarry.m64, Int.toNat_natCast, borrowI]
  congr 4
  · simp only [Value.int.injEq, true_and, Int.ofNat_eq_natCast]; omega
  · by_cases h : X < Y + k
    · rw [if_pos h, if_pos (by omega)]; rfl
    · rw [if_neg h, if_neg (by omega)]; rfl
end Go.Plumb
namespace Go.Proofs.YtjfjkabmpiebpaaDoor
open Go.RowKit Go.Plumb

theorem run_add (x y c : Int) (hx : 0 ≤ x) (hy : 0 ≤ y) (hc0 : 0 ≤ c) (hc : c ≤ 1) (w : World) : Sem.run Tryd.prog (callFunc 51 #[.int .u64 x, .int .u64 y, .int .u64 c]) w = .ok (.value (.tuple #[.int .u64 ((x + y + c) % 18446744073709551616), .int .u64 ((x + y + c) / 18446744073709551616)])) w := by
  rw [run_callFunc_extern (e := add64Entry) Tryd.func51 (by kernel_rfl) (by kernel_rfl) (by kernel_rfl) (by rfl), run_add64 x y c hx hy hc0 hc]
  rfl
theorem run_sub (x y c : Int) (hx : 0 ≤ x) (hy : 0 ≤ y) (hy1 : y < 18446744073709551616) (hc0 : 0 ≤ c) (hc : c ≤ 1) (w : World) : Sem.run Tryd.prog (callFunc 72 #[.int .u64 x, .int .u64 y, .int .u64 c]) w = .ok (.value (.tuple #[.int .u64 ((x - y - c) % 18446744073709551616), .int .u64 (borrowI x y c)])) w := by
  rw [run_callFunc_extern (e := sub64Entry) Tryd.func72 (by kernel_rfl) (by kernel_rfl) (by kernel_rfl) (by rfl), run_sub64 x y c hx hy hy1 hc0 hc]
  rfl

theorem step_any (x y cy : Int) (B : Nat) (w : World) (hcell : w.cell? ⟨B, 0, none⟩ = some (.int .u64 cy)) (hfz : w.frozen? ⟨B, 0, none⟩ = false) (hx : 0 ≤ x) (hy : 0 ≤ y) (hc0 : 0 ≤ cy) (hc : cy ≤ 1) :
    Calls Tryd.prog 50 #[.int .u64 x, .int .u64 y, .pointer (some ⟨B, 0, none⟩)] w fun e w' => e = .returned (.int .u64 ((x + y + cy) % 18446744073709551616)) ∧ w.setCell ⟨B, 0, none⟩ (.int .u64 ((x + y + cy) / 18446744073709551616)) = w' := by
  have hr := run_add x y cy hx hy hc0 hc
  go_enter Tryd.func50, Tryd.ntmps50
  go_wp2_with fail
  go_ret
  exact ⟨rfl, rfl⟩
/-- n noughts. -/
def zerosA (n : Nat) : Array Value := madeCells #[.int .u64 0] n
theorem zerosA_toList (n : Nat) : (zerosA n).toList = (List.replicate n 0).map limbV := by
  unfold zerosA
  rw [toList_madeCells_one, List.map_replicate]; rfl
theorem run_makeI (n : Int) (h0 : 0 ≤ n) (h1 : n ≤ 1000000) (w : World) :
    Sem.run Tryd.prog ((Instr.makeSlice 22 (.int .i64 n) (.int .i64 n))) w = .ok (.slice (some ⟨w.heap.size, 0, none⟩) n.toNat n.toNat) (w.alloc (.cells (zerosA n.toNat) 36)) := by
  obtain ⟨i0, hi, hz0, hz1, hz2⟩ := info_parts info_u64
  have := run_make (P := Tryd.prog) w 22 36 i0 (.int .u64 0) Tryd.underlying22 hi hz0 .i64 .i64 n n h0 (Int.le_refl _) (by rw [hz2]; omega) (by omega)
  rw [this, hz1]
  simp [zerosA, Value.cells]
theorem run_make1 (n : Nat) (h1 : n ≤ 100000) (w : World) :
    Sem.run Tryd.prog ((Instr.makeSlice 22 (.int .i64 ((n : Int) + 1)) (.int .i64 ((n : Int) + 1)))) w = .ok (.slice (some ⟨w.heap.size, 0, none⟩) (n + 1) (n + 1)) (w.alloc (.cells (zerosA (n + 1)) 36)) := by
  have := run_makeI ((n : Int) + 1) (by omega) (by omega) w
  rw [show ((n : Int) + 1).toNat = n + 1 by omega] at this
  exact this
theorem owns_zeros (w : World) (B n : Nat) (hB : B ≤ w.heap.size) (hn : n ≤ 100000) :
    (w.alloc (.cells (zerosA n) 36)).ownsRow B 36 1 (.slice (some ⟨w.heap.size, 0, none⟩) n n) n ((List.replicate n 0).map limbV) := by
  rw [← zerosA_toList]
  exact World.ownsRow_lit w _ n hB (by unfold maxLen; omega) (by simp [zerosA, size_madeCells])
end Go.Proofs.YtjfjkabmpiebpaaDoor
