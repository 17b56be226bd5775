/-
  bits.Round, at every input: what it answers is 'roundW'.
-/
import Derived.Test.YtaeognfpmhfmgaaDoorBitsE
import Derived.Test.YtaeognfpmhfmgaaDoorRoundL
set_option linter.unusedSimpArgs false
set_option linter.unusedVariables false
namespace Go.Plumb
/-- The rounded number's word: with more, whatever lies above m as m and a half. -/
def roundW (neg : Bool) (m e : Int) (more : Bool) : Int := if more then (roundN neg (2 * m.toNat + 1) (e - 1) : Int) else (roundN neg m.toNat e : Int)
def roundBad (m e : Int) (more : Bool) : Bool := more && decide (m < 9007199254740992) && decide (-1075 < e)

theorem roundN_clip (neg : Bool) (n : Nat) (e c : Int) (hn : n < 2 ^ 65) (hc : c = max (-4000) (min 4000 e)) : roundN neg n c = roundN neg n e := by
  by_cases h0 : n = 0
  · subst h0; simp [roundN]
  · by_cases h1 : 4000 ≤ e
    · rw [roundN_big neg n e h0 (by omega), roundN_big neg n c h0 (by omega)]
    · by_cases h2 : e ≤ -4000
      · rw [roundN_small neg n e hn (by omega), roundN_small neg n c hn (by omega)]
      · have : c = e := by omega
        rw [this]
theorem roundN_clip1 (neg : Bool) (n : Nat) (e c : Int) (hn : n < 2 ^ 65) (hc : c = max (-4000) (min 4000 e)) : roundN neg n (c - 1) = roundN neg n (e - 1) := by
  by_cases h0 : n = 0
  · subst h0; simp [roundN]
  · by_cases h1 : 4000 ≤ e
    · rw [roundN_big neg n _ h0 (by omega), roundN_big neg n _ h0 (by omega)]
    · by_cases h2 : e ≤ -4000
      · rw [roundN_small neg n _ hn (by omega), roundN_small neg n _ hn (by omega)]
      · have : c = e := by omega
        rw [this]
theorem joinI_zero (neg : Bool) : joinI neg 0 0 = (wordN neg 0 : Int) := by cases neg <;> rfl
theorem lenI_nat (n : Nat) : lenI (n : Int) = (lenN n : Int) := by unfold lenI; rw [Int.toNat_natCast]
theorem roundN_far (neg : Bool) (n : Nat) (e : Int) (k : Nat) (hn : lenN n ≤ k) (hk : 53 ≤ k) (h : (k : Int) < dropN n e) : roundN neg n e = wordN neg 0 := by
  unfold roundN
  split
  · rfl
  · have hd : dropN n e = -1074 - e := by unfold dropN at *; omega
    have hK : keptN n (dropN n e) = 0 := by
      unfold keptN
      rw [if_neg (by omega)]
      apply rne_small
      have h1 := lt_lenN n
      have h2 : 2 ^ (lenN n + 1) ≤ 2 ^ (dropN n e).toNat := Nat.pow_le_pow_right (by decide) (by omega)
      rw [Nat.pow_succ] at h2
      omega
    rw [hK, show (e + dropN n e + 1074).toNat = 0 by omega]; rfl
end Go.Plumb
namespace Go.Proofs.YtaeognfpmhfmgaaDoor
open Go.RowKit Go.Plumb

theorem round_f (neg : Bool) (n : Nat) (e : Int) (w : World) (h1 : n < 18446744073709551616) :
    Calls Tryd.prog 24 #[.agg #[.bool neg, .int .u64 n, .int .i64 e], .bool false] w fun e' w' => e' = .returned (.tuple #[.int .u64 (roundN neg n e : Int), .int .i64 0]) ∧ Below w.heap.size w w' := by
  by_cases h0 : n = 0
  · subst h0
    have : (roundN neg 0 e : Int) = joinI neg 0 0 := by rw [joinI_zero]; rfl
    rw [this]
    exact round_zero neg e w
  generalize hc : max (-4000) (min 4000 e) = c
  have hr : roundN neg n e = roundN neg n c := (roundN_clip neg n e c (Nat.lt_trans h1 (by decide)) hc.symm).symm
  have hl := lenN_le n 64 h1
  have hl0 : 0 < lenN n := by unfold lenN; rw [if_neg h0]; omega
  obtain ⟨u, hu⟩ : ∃ u : Nat, min (64 - lenI (n : Int)) (max 0 (c + 1075)) = (u : Int) := ⟨(min (64 - lenI (n : Int)) (max 0 (c + 1075))).toNat, by rw [lenI_nat]; omega⟩
  have hu' := hu
  rw [lenI_nat] at hu'
  have hm0 : n * 2 ^ u ≠ 0 := by intro h; rcases Nat.mul_eq_zero.1 h with h | h; exact h0 h; have := Nat.two_pow_pos u; omega
  have hlen := lenN_scale n u h0
  have hm1 : n * 2 ^ u < 18446744073709551616 := by
    have := lt_lenN (n * 2 ^ u)
    have h2 : 2 ^ lenN (n * 2 ^ u) ≤ 2 ^ 64 := Nat.pow_le_pow_right (by decide) (by omega)
    exact Nat.lt_of_lt_of_le this h2
  have hwm : IntKind.u64.wrap ((n : Int) * 2 ^ (u : Int).toNat) = ((n * 2 ^ u : Nat) : Int) := by
    rw [Int.toNat_natCast, IntKind.wrap_u64]
    have : ((n : Int) * 2 ^ u) = ((n * 2 ^ u : Nat) : Int) := by simp
    rw [this]; omega
  rw [hr, ← roundN_scale neg n c u]
  have hdr : dropN (n * 2 ^ u) (c - u) = max ((lenN (n * 2 ^ u) : Int) - 53) (-1074 - (c - u)) := rfl
  have hpos : 0 < dropN (n * 2 ^ u) (c - u) := by rw [hdr, hlen]; omega
  have hdd : (if lenI ((n * 2 ^ u : Nat) : Int) - 53 < -1074 - (c - u) then -1074 - (c - u) else lenI ((n * 2 ^ u : Nat) : Int) - 53) = dropN (n * 2 ^ u) (c - u) := by
    rw [lenI_nat, hdr]; split <;> omega
  have hlen64 : lenN (n * 2 ^ u) ≤ 64 := by omega
  generalize n * 2 ^ u = m1 at *
  by_cases hd : dropN m1 (c - u) ≤ 64
  · obtain ⟨d, hd'⟩ : ∃ d : Nat, dropN m1 (c - u) = (d : Int) := ⟨(dropN m1 (c - u)).toNat, by omega⟩
    rw [← tail_false neg m1 d (c - u) hm0 hd' (by omega) (by omega)]
    have hq := div_len m1 d 53 (by unfold dropN at hd'; omega)
    have hqi : (m1 : Int) / 2 ^ d = ((m1 / 2 ^ d : Nat) : Int) := by simp
    simp only [Nat.reducePow] at hq
    have q0 : 0 ≤ (m1 : Int) / 2 ^ d := by rw [hqi]; exact Int.natCast_nonneg _
    have q1 : (m1 : Int) / 2 ^ d < 9007199254740992 := by rw [hqi]; exact Int.ofNat_lt.2 hq
    refine round_false neg n e c u m1 d _ _ w (by omega) (by omega) (by simp; omega) hc (by omega) (by omega) hu (by omega) (by omega) hwm (by omega) (by omega) (by rw [lenI_nat]; omega) (by rw [lenI_nat]; omega) (by rw [hdd, hd']) (by omega) (by omega) (by unfold dropN at hd'; omega) (by rw [IntKind.wrap_u64]) (by rw [Int.toNat_natCast]) q0 q1 (by omega)
  · have : roundN neg m1 (c - u) = wordN neg 0 := roundN_far neg m1 _ 64 hlen64 (by omega) (by omega)
    rw [this, ← joinI_zero]
    exact round_far_false neg n e c u m1 _ w (by omega) (by omega) (by simp; omega) hc (by omega) (by omega) hu (by omega) (by omega) hwm (by omega) (by omega) (by rw [lenI_nat]; omega) (by rw [lenI_nat]; omega) hdd (by omega)

theorem round_t (neg : Bool) (n : Nat) (e : Int) (w : World) (h1 : n < 18446744073709551616) (hg : 9007199254740992 ≤ n ∨ e ≤ -1075) :
    Calls Tryd.prog 24 #[.agg #[.bool neg, .int .u64 n, .int .i64 e], .bool true] w fun e' w' => e' = .returned (.tuple #[.int .u64 (roundN neg (2 * n + 1) (e - 1) : Int), .int .i64 0]) ∧ Below w.heap.size w w' := by
  generalize hc : max (-4000) (min 4000 e) = c
  have hr : roundN neg (2 * n + 1) (e - 1) = roundN neg (2 * n + 1) (c - 1) := (roundN_clip1 neg (2 * n + 1) e c (Nat.lt_of_lt_of_le (show 2 * n + 1 < 36893488147419103232 by omega) (by decide)) hc.symm).symm
  have hl := lenN_le n 64 h1
  rw [hr]
  have hbig : 9007199254740992 ≤ n → 54 ≤ lenN n := by
    intro h
    apply Nat.lt_of_not_le
    intro h2
    have := lt_lenN n
    have h3 : 2 ^ lenN n ≤ 2 ^ 53 := Nat.pow_le_pow_right (by decide) h2
    simp only [Nat.reducePow] at h3
    omega
  generalize hD : max ((lenN n : Int) - 53) (-1074 - c) = D
  have hpos : 0 < D := by rcases hg with hg | hg; have := hbig hg; omega; omega
  have hdd : (if lenI (n : Int) - 53 < -1074 - c then -1074 - c else lenI (n : Int) - 53) = D := by
    rw [lenI_nat, ← hD]; split <;> omega
  by_cases hd : D ≤ 64
  · obtain ⟨d, hd'⟩ : ∃ d : Nat, D = (d : Int) := ⟨D.toNat, by omega⟩
    subst hd'
    rw [← tail_true neg n d c hD (by omega) (by omega)]
    have hq := div_len n d 53 (by omega)
    have hqi : (n : Int) / 2 ^ d = ((n / 2 ^ d : Nat) : Int) := by simp
    simp only [Nat.reducePow] at hq
    have q0 : 0 ≤ (n : Int) / 2 ^ d := by rw [hqi]; exact Int.natCast_nonneg _
    have q1 : (n : Int) / 2 ^ d < 9007199254740992 := by rw [hqi]; exact Int.ofNat_lt.2 hq
    by_cases hs : 9007199254740992 ≤ n
    · refine round_true1 neg ((n : Int) == 0) n e c d _ _ w (by omega) (by omega) rfl hc (by omega) (by omega) (by omega) (by rw [lenI_nat]; omega) (by rw [lenI_nat]; omega) hdd (by omega) (by omega) (by omega) (by rw [IntKind.wrap_u64]) (by rw [Int.toNat_natCast]) q0 q1 (by omega)
    · refine round_true2 neg ((n : Int) == 0) n e c d _ _ w (by omega) (by omega) rfl hc (by omega) (by omega) (by omega) (by omega) (by rw [lenI_nat]; omega) (by rw [lenI_nat]; omega) hdd (by omega) (by omega) (by omega) (by rw [IntKind.wrap_u64]) (by rw [Int.toNat_natCast]) q0 q1 (by omega)
  · have hlo := lenN_odd n
    have : roundN neg (2 * n + 1) (c - 1) = wordN neg 0 := roundN_far neg _ _ 65 (by omega) (by omega) (by unfold dropN; omega)
    rw [this, ← joinI_zero]
    exact round_far_true neg ((n : Int) == 0) n e c D w (by omega) (by omega) rfl hc (by omega) (by omega) (by omega) (by rw [lenI_nat]; omega) (by rw [lenI_nat]; omega) hdd (by omega)

/-- bits.Round, every input: 0 and the error 2 where it hangs on which number it is; else the word. -/
theorem round_any (neg : Bool) (m e : Int) (more : Bool) (w : World) (h0 : 0 ≤ m) (h1 : m < 18446744073709551616) (hb : roundBad m e more = false) :
    Calls Tryd.prog 24 #[.agg #[.bool neg, .int .u64 m, .int .i64 e], .bool more] w fun e' w' => e' = .returned (.tuple #[.int .u64 (roundW neg m e more), .int .i64 0]) ∧ Below w.heap.size w w' := by
  obtain ⟨n, rfl, hn⟩ := nat64 h0 h1
  cases more
  · have := round_f neg n e w hn
    unfold roundW
    simpa using this
  · have := round_t neg n e w hn (by simp [roundBad] at hb; omega)
    unfold roundW
    simpa using this
theorem round_bad (neg : Bool) (m e : Int) (more : Bool) (w : World) (h0 : 0 ≤ m) (hb : roundBad m e more = true) :
    Calls Tryd.prog 24 #[.agg #[.bool neg, .int .u64 m, .int .i64 e], .bool more] w fun e' w' => e' = .returned (.tuple #[.int .u64 0, .int .i64 2]) ∧ Below w.heap.size w w' := by
  simp [roundBad] at hb
  obtain ⟨⟨rfl, h⟩, h'⟩ := hb
  exact round_err neg m e w h0 h h'

end Go.Proofs.YtaeognfpmhfmgaaDoor
