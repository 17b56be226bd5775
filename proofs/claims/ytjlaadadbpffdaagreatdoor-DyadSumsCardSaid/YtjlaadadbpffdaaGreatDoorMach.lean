/-
  The machine's operations on words (the model's own 'Ieee.double') as rounding of exact dyads.
-/
import Derived.Test.YtjlaadadbpffdaaGreatDoorRndS
set_option linter.unusedSimpArgs false
set_option linter.unusedVariables false
namespace Go.Plumb

theorem pMan_ge (x : Int) : 0 ≤ pMan x := by unfold pMan; repeat' split
                                             all_goals omega
theorem pMan_lt (x : Int) : pMan x < 9007199254740992 := by unfold pMan; repeat' split
                                                            all_goals omega
theorem pExp_ge (x : Int) : -1074 ≤ pExp x := by
  unfold pExp; split
  · rename_i h; unfold classI at h; split at h
    · split at h <;> omega
    · split at h
      · split at h <;> omega
      · omega
  · split <;> omega
theorem pExp_le (x : Int) : pExp x ≤ 973 := by unfold pExp; repeat' split
                                               all_goals omega

/-- The number of a finite word. -/
def dyW (x : Nat) : Dy := ⟨pNeg (x : Int), (pMan (x : Int)).toNat, pExp (x : Int)⟩
def negW (x : Nat) : Bool := x / 9223372036854775808 == 1

theorem dyW_m_lt (x : Nat) : (dyW x).m < 9007199254740992 := by
  have h1 := pMan_lt (x : Int)
  have h2 := pMan_ge (x : Int)
  show (pMan (x : Int)).toNat < _
  omega
theorem dyW_e (x : Nat) : -1074 ≤ (dyW x).e ∧ (dyW x).e ≤ 973 := ⟨pExp_ge _, pExp_le _⟩
theorem dyW_s (x : Nat) (h : classI x ≤ 3) (hx : x < 18446744073709551616) : (dyW x).s = negW x := by
  show pNeg (x : Int) = _
  unfold pNeg negW
  rw [decide_eq_true h, Bool.true_and, Bool.eq_iff_iff]
  simp; omega

theorem read_fin (x : Nat) (h : classI x ≤ 3) (hx : x < 18446744073709551616) :
    ∃ e : Int, -1074 ≤ e ∧ e ≤ 973 ∧ Ieee.double.read x = .number (dyW x).s (dyW x).m e ∧ ((dyW x).m ≠ 0 → e = (dyW x).e) := by
  have e1 : Ieee.double.signWeight = 9223372036854775808 := by decide
  have e2 : Ieee.double.binade = 4503599627370496 := by decide
  have e3 : Ieee.double.infRung = 9218868437227405312 := by decide
  have e4 : Ieee.double.leastPlace = -1074 := by decide
  have hs : (x / 9223372036854775808 % 2 == 1) = (dyW x).s := by
    rw [dyW_s x h hx]; unfold negW; rw [Bool.eq_iff_iff]; simp; omega
  unfold Ieee.Format.read
  simp only [e1, e2, e3, e4, hs]
  have hm : ∃ m : Nat, (dyW x).m = m ∧ pMan (x : Int) = m := ⟨(pMan (x : Int)).toNat, rfl, by have := pMan_ge (x : Int); omega⟩
  obtain ⟨m, hm, hm2⟩ := hm
  obtain ⟨E, hE⟩ : ∃ E, (dyW x).e = E := ⟨_, rfl⟩
  have hE2 : pExp (x : Int) = E := hE
  rw [hm, hE]
  unfold pMan at hm2
  unfold pExp at hE2
  unfold classI at h hm2 hE2
  by_cases c1 : x % 9223372036854775808 < 4503599627370496
  · rw [if_pos c1]
    refine ⟨-1074, by omega, by omega, ?_, ?_⟩
    · congr 1
      (repeat' split at hm2) <;> omega
    · intro h0
      (repeat' split at hm2) <;> (repeat' split at hE2) <;> omega
  · rw [if_neg c1]
    by_cases c2 : x % 9223372036854775808 < 9218868437227405312
    · rw [if_pos c2]
      have hf : x % 9223372036854775808 / 4503599627370496 = x / 4503599627370496 % 2048 := by omega
      refine ⟨-1074 + ((x % 9223372036854775808 / 4503599627370496 - 1 : Nat) : Int), by omega, by omega, ?_, ?_⟩
      · congr 1
        (repeat' split at hm2) <;> omega
      · intro h0
        (repeat' split at hm2) <;> (repeat' split at hE2) <;> omega
    · exfalso
      (repeat' split at h) <;> omega
theorem read_inf (x : Nat) (h : classI x = 4) (hx : x < 18446744073709551616) : Ieee.double.read x = .infinity (negW x) := by
  have e1 : Ieee.double.signWeight = 9223372036854775808 := by decide
  have e2 : Ieee.double.binade = 4503599627370496 := by decide
  have e3 : Ieee.double.infRung = 9218868437227405312 := by decide
  have hs : (x / 9223372036854775808 % 2 == 1) = negW x := by
    unfold negW; rw [Bool.eq_iff_iff]; simp; omega
  unfold Ieee.Format.read
  simp only [e1, e2, e3, hs]
  unfold classI at h
  (repeat' split at h) <;> first | (exfalso; omega) | skip
  rw [if_neg (by omega), if_neg (by omega), if_pos (by omega)]
theorem read_nan (x : Nat) (h : classI x = 5) (hx : x < 18446744073709551616) : ∃ s t, Ieee.double.read x = .nan s t := by
  have e1 : Ieee.double.signWeight = 9223372036854775808 := by decide
  have e2 : Ieee.double.binade = 4503599627370496 := by decide
  have e3 : Ieee.double.infRung = 9218868437227405312 := by decide
  unfold Ieee.Format.read
  simp only [e1, e2, e3]
  rw [nan_iff] at h
  rw [if_neg (by omega), if_neg (by omega), if_neg (by omega)]
  exact ⟨_, _, rfl⟩

theorem signed_val (s : Bool) (m : Nat) (i base : Int) : Ieee.signed s m (i - base).toNat = valP (-base) ⟨s, m, i⟩ := by
  unfold Ieee.signed valP
  rw [sg_mul, Nat.shiftLeft_eq]
  have : (i - base).toNat = (i + -base).toNat := by congr 1
  rw [this]

theorem write_number (s : Bool) (m : Nat) (e : Int) : Ieee.double.write (.number s m e) = rndD ⟨s, m, e⟩ := nearest_eq s m e

/-- The same number, but for the place of a nought. -/
theorem nrm_place {s : Bool} {m : Nat} {e e' : Int} (h : m ≠ 0 → e = e') : nrm ⟨s, m, e⟩ = nrm ⟨s, m, e'⟩ := by
  by_cases h0 : m = 0
  · rw [nrm_zero (by exact h0), nrm_zero (by exact h0)]
  · rw [h h0]
theorem nrm_addD (x y : Dy) : nrm (addD (nrm x) (nrm y)) = nrm (addD x y) := by
  obtain ⟨P, hP, hx, hy⟩ : ∃ P : Int, 0 ≤ P ∧ -P ≤ x.e ∧ -P ≤ y.e := ⟨max 0 (max (-x.e) (-y.e)), by omega, by omega, by omega⟩
  have hx' := nrm_ge hx hP
  have hy' := nrm_ge hy hP
  refine nrm_eq (P := P) ?_ ?_ ?_
  · rw [addD_e]; exact lowE_ge hx' hy'
  · rw [addD_e]; exact lowE_ge hx hy
  · rw [valP_add hx' hy', valP_add hx hy, valP_nrm hx, valP_nrm hy]
theorem nrm_mulD (x y : Dy) : nrm (mulD (nrm x) (nrm y)) = nrm (mulD x y) := by
  obtain ⟨P, hP, hx, hy⟩ : ∃ P : Int, 0 ≤ P ∧ -P ≤ x.e ∧ -P ≤ y.e := ⟨max 0 (max (-x.e) (-y.e)), by omega, by omega, by omega⟩
  have hx' := nrm_ge hx hP
  have hy' := nrm_ge hy hP
  refine nrm_eq (P := P + P) ?_ ?_ ?_
  · show -(P + P) ≤ (nrm x).e + (nrm y).e; omega
  · show -(P + P) ≤ x.e + y.e; omega
  · rw [valP_mul hx' hy', valP_mul hx hy, valP_nrm hx, valP_nrm hy]

/-- A sum of two numbers, as the machine has it. -/
theorem sum_number (s t : Bool) (m n : Nat) (i j : Int) :
    ∃ d, (Ieee.Datum.number s m i).sum (.number t n j) = some d ∧ Ieee.double.write d = if m = 0 ∧ n = 0 then wordN (s && t) 0 else rndD (nrm (addD ⟨s, m, i⟩ ⟨t, n, j⟩)) := by
  refine ⟨_, rfl, ?_⟩
  rw [signed_val, signed_val]
  obtain ⟨b, hb⟩ : ∃ b, min i j = b := ⟨_, rfl⟩
  rw [hb]
  have h1 : -(-b) ≤ i := by omega
  have h2 : -(-b) ≤ j := by omega
  have ha := valP_add (P := -b) (x := ⟨s, m, i⟩) (y := ⟨t, n, j⟩) h1 h2
  have hl : -(-b) ≤ (addD ⟨s, m, i⟩ ⟨t, n, j⟩).e := by rw [addD_e]; exact lowE_ge h1 h2
  obtain ⟨T, hT⟩ : ∃ T, valP (-b) ⟨s, m, i⟩ + valP (-b) ⟨t, n, j⟩ = T := ⟨_, rfl⟩
  rw [hT] at ha ⊢
  have hn := nrm_ofZ hl ha
  by_cases h0 : T = 0
  · rw [if_pos h0, write_number, h0]
    rw [h0] at ha
    have hz := valP_eq_zero ha
    rw [rndD_zero _ (by simp)]
    by_cases hmn : m = 0 ∧ n = 0
    · rw [if_pos hmn]
    · rw [if_neg hmn, nrm_zero hz, rndD_zero _ rfl]
      congr 1
      show (s && t) = false
      rw [h0] at hT
      unfold valP at hT
      rw [sg_mul, sg_mul] at hT
      have hp1 : m ≠ 0 → 0 < m * 2 ^ (i + -b).toNat := fun h => Nat.mul_pos (by omega) (Nat.two_pow_pos _)
      have hp2 : n ≠ 0 → 0 < n * 2 ^ (j + -b).toNat := fun h => Nat.mul_pos (by omega) (Nat.two_pow_pos _)
      revert hT
      show (if s = true then -((m * 2 ^ (i + -b).toNat : Nat) : Int) else ((m * 2 ^ (i + -b).toNat : Nat) : Int)) + (if t = true then -((n * 2 ^ (j + -b).toNat : Nat) : Int) else ((n * 2 ^ (j + -b).toNat : Nat) : Int)) = 0 → _
      generalize m * 2 ^ (i + -b).toNat = A at *
      generalize n * 2 ^ (j + -b).toNat = B at *
      cases s <;> cases t <;> simp <;> omega
  · rw [if_neg h0, write_number, if_neg]
    · rw [hn]
      have e : (⟨decide (T < 0), T.natAbs, b⟩ : Dy) = ofZ (-b) T := by unfold ofZ; rw [Int.neg_neg]
      rw [e, rndD_nrm]
      show T.natAbs ≠ 0
      omega
    · rintro ⟨rfl, rfl⟩
      apply h0
      rw [← hT, valP_zero rfl, valP_zero rfl]; rfl

def isNan (x : Nat) : Prop := classI x = 5
/-- What the machine's sum is: a number's. -/
theorem add_fin (x y : Nat) (hx : classI x ≤ 3) (hy : classI y ≤ 3) (h1 : x < 18446744073709551616) (h2 : y < 18446744073709551616) :
    Ieee.double.add x y = some (if (dyW x).m = 0 ∧ (dyW y).m = 0 then wordN (negW x && negW y) 0 else rndD (nrm (addD (nrm (dyW x)) (nrm (dyW y))))) := by
  obtain ⟨e, _, _, hr, he⟩ := read_fin x hx h1
  obtain ⟨f, _, _, hs, hf⟩ := read_fin y hy h2
  unfold Ieee.Format.add
  rw [hr, hs]
  obtain ⟨d, hd, hw⟩ := sum_number (dyW x).s (dyW y).s (dyW x).m (dyW y).m e f
  rw [hd]
  show some (Ieee.double.write d) = _
  rw [hw, dyW_s x hx h1, dyW_s y hy h2]
  congr 2
  rw [← nrm_addD, nrm_place he, nrm_place hf, ← dyW_s x hx h1, ← dyW_s y hy h2]
theorem opposite_write (x : Nat) (h : classI x ≠ 5) (hx : x < 18446744073709551616) : Ieee.double.read ((negI (x : Int)).toNat) = (Ieee.double.read x).opposite := by
  have e1 : Ieee.double.signWeight = 9223372036854775808 := by decide
  have hn : (negI (x : Int)).toNat = (x + 9223372036854775808) % 18446744073709551616 := by unfold negI; rw [if_neg h]; omega
  rw [hn]
  unfold Ieee.Format.read
  simp only [e1]
  have hm : (x + 9223372036854775808) % 18446744073709551616 % 9223372036854775808 = x % 9223372036854775808 := by omega
  have hd : ((x + 9223372036854775808) % 18446744073709551616 / 9223372036854775808 % 2 == 1) = !(x / 9223372036854775808 % 2 == 1) := by
    rw [Bool.eq_iff_iff]; simp; omega
  rw [hm, hd]
  split
  · rfl
  · split
    · rfl
    · split <;> rfl
/-- A difference is the sum with the other's sign turned. -/
theorem sub_add (x y : Nat) (h : classI y ≠ 5) (hy : y < 18446744073709551616) : Ieee.double.sub x y = Ieee.double.add x ((negI (y : Int)).toNat) := by
  unfold Ieee.Format.sub Ieee.Format.add
  rw [opposite_write y h hy]
theorem word_inf (s : Bool) : Ieee.double.write (.infinity s) = wordN s 9218868437227405312 := by
  have e1 : Ieee.double.signWeight = 9223372036854775808 := by decide
  have e3 : Ieee.double.infRung = 9218868437227405312 := by decide
  show Ieee.double.word s _ = _
  unfold Ieee.Format.word wordN
  rw [e1, e3]
theorem inf_word (x : Nat) (h : classI x = 4) (hx : x < 18446744073709551616) : wordN (negW x) 9218868437227405312 = x := by
  unfold classI at h
  (repeat' split at h) <;> first | (exfalso; omega) | skip
  unfold wordN negW
  by_cases c : x / 9223372036854775808 = 1 <;> simp [c] <;> omega
theorem add_nan (x y : Nat) (h : classI x = 5 ∨ classI y = 5 ∨ (classI x = 4 ∧ classI y = 4 ∧ negW x ≠ negW y)) (h1 : x < 18446744073709551616) (h2 : y < 18446744073709551616) : Ieee.double.add x y = none := by
  unfold Ieee.Format.add
  rcases h with h | h | ⟨h, h', hn⟩
  · obtain ⟨s, t, hr⟩ := read_nan x h h1
    rw [hr]; rfl
  · obtain ⟨s, t, hr⟩ := read_nan y h h2
    rw [hr]
    cases Ieee.double.read x <;> rfl
  · rw [read_inf x h h1, read_inf y h' h2]
    show ((if negW x = negW y then some _ else none).map _) = _
    rw [if_neg hn]; rfl
theorem add_inf_l (x y : Nat) (h : classI x = 4) (hy : classI y ≤ 3 ∨ (classI y = 4 ∧ negW x = negW y)) (h1 : x < 18446744073709551616) (h2 : y < 18446744073709551616) : Ieee.double.add x y = some x := by
  unfold Ieee.Format.add
  rw [read_inf x h h1]
  rcases hy with hy | ⟨hy, hs⟩
  · obtain ⟨f, _, _, hs, hf⟩ := read_fin y hy h2
    rw [hs]
    show some (Ieee.double.write (.infinity (negW x))) = _
    rw [word_inf, inf_word x h h1]
  · rw [read_inf y hy h2]
    show ((if negW x = negW y then some (Ieee.Datum.infinity (negW x)) else none).map Ieee.double.write) = _
    rw [if_pos hs]
    show some (Ieee.double.write (.infinity (negW x))) = _
    rw [word_inf, inf_word x h h1]
theorem add_inf_r (x y : Nat) (h : classI y = 4) (hx : classI x ≤ 3) (h1 : x < 18446744073709551616) (h2 : y < 18446744073709551616) : Ieee.double.add x y = some y := by
  unfold Ieee.Format.add
  rw [read_inf y h h2]
  obtain ⟨f, _, _, hs, hf⟩ := read_fin x hx h1
  rw [hs]
  show some (Ieee.double.write (.infinity (negW y))) = _
  rw [word_inf, inf_word y h h2]
end Go.Plumb
