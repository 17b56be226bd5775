/-
  A number's digits by chunks of nineteen: plain.
-/
import Derived.Test.YtjfjkabmpiebpaaDoorNatBb
set_option linter.unusedSimpArgs false
set_option linter.unusedVariables false
namespace Go.Plumb
/-- The rests of dividing by 10^19, again and again. -/
def chunksN (n : Nat) : List Nat := if h : n = 0 then [] else n % 10000000000000000000 :: chunksN (n / 10000000000000000000)
termination_by n
decreasing_by omega
theorem chunksN_zero : chunksN 0 = [] := by unfold chunksN; simp
theorem chunksN_pos {n : Nat} (h : n ≠ 0) : chunksN n = n % 10000000000000000000 :: chunksN (n / 10000000000000000000) := by rw [chunksN]; simp [h]
/-- Just k digits, the lowest first. -/
def padD : Nat → Nat → List UInt8
  | 0, _ => []
  | k + 1, n => digB (n % 10) :: padD k (n / 10)
theorem padD_length (k : Nat) : ∀ n, (padD k n).length = k := by
  induction k with
  | zero => intro n; rfl
  | succ k ih => intro n; simp [padD, ih]
theorem padD_succ (k : Nat) : ∀ n, padD (k + 1) n = padD k n ++ [digB (n / 10 ^ k % 10)] := by
  induction k with
  | zero => intro n; simp [padD]
  | succ k ih =>
    intro n
    rw [padD, ih (n / 10), padD, List.cons_append, Nat.div_div_eq_div_mul, Nat.pow_succ, Nat.mul_comm 10]
theorem padD_zero (k : Nat) : padD k 0 = List.replicate k 48 := by
  induction k with
  | zero => rfl
  | succ k ih => rw [padD, List.replicate_succ]; simp only [Nat.zero_mod, Nat.zero_div]; rw [ih]; rfl
theorem padD_small (k : Nat) : ∀ n, n < 10 ^ k → ∃ m, padD k n = digs n ++ List.replicate m 48 := by
  induction k with
  | zero => intro n h; have : n = 0 := by simp at h; omega
            subst this; exact ⟨0, by rw [digs_zero]; rfl⟩
  | succ k ih =>
    intro n h
    by_cases h0 : n = 0
    · subst h0
      exact ⟨k + 1, by rw [digs_zero, padD_zero]; rfl⟩
    · obtain ⟨m, hm⟩ := ih (n / 10) (by rw [Nat.pow_succ] at h; omega)
      exact ⟨m, by rw [padD, hm, digs_pos h0]; rfl⟩
theorem padD_digs (k : Nat) : ∀ n, n / 10 ^ k ≠ 0 → digs n = padD k (n % 10 ^ k) ++ digs (n / 10 ^ k) := by
  induction k with
  | zero => intro n h; simp [padD]
  | succ k ih =>
    intro n h
    have hd : n / 10 ^ (k + 1) = n / 10 / 10 ^ k := by rw [Nat.div_div_eq_div_mul, Nat.pow_succ, Nat.mul_comm]
    rw [hd] at h
    have h0 : n ≠ 0 := by intro e; subst e; simp at h
    have hpp : (10 : Nat) ^ (k + 1) = 10 ^ k * 10 := Nat.pow_succ ..
    have e1 : n % 10 ^ (k + 1) % 10 = n % 10 := Nat.mod_mod_of_dvd _ ⟨10 ^ k, by rw [hpp, Nat.mul_comm]⟩
    have e2 : n % 10 ^ (k + 1) / 10 = n / 10 % 10 ^ k := by
      rw [hpp, Nat.mul_comm, Nat.mod_mul_right_div_self]
    rw [digs_pos h0, ih _ h, padD, e1, e2, hd]
    rfl
/-- All chunks' digits are the number's, but for noughts behind. -/
theorem chunks_digs (n : Nat) : ∃ m, (chunksN n).flatMap (padD 19) = digs n ++ List.replicate m 48 := by
  induction n using Nat.strongRecOn with
  | ind n ih =>
    by_cases h0 : n = 0
    · subst h0
      exact ⟨0, by rw [chunksN_zero, digs_zero]; rfl⟩
    · rw [chunksN_pos h0, List.flatMap_cons]
      by_cases h1 : n / 10000000000000000000 = 0
      · rw [h1, chunksN_zero, List.flatMap_nil, List.append_nil]
        have e : (10 : Nat) ^ 19 = 10000000000000000000 := by decide
        rw [Nat.mod_eq_of_lt (by omega)]
        exact padD_small 19 n (by omega)
      · obtain ⟨m, hm⟩ := ih (n / 10000000000000000000) (by omega)
        refine ⟨m, ?_⟩
        have e : (10 : Nat) ^ 19 = 10000000000000000000 := by decide
        have := padD_digs 19 n (by rw [e]; exact h1)
        rw [e] at this
        rw [hm, this, List.append_assoc]
theorem digs_top (n : Nat) (h : n ≠ 0) : ∃ l b, digs n = l ++ [b] ∧ b ≠ 48 := by
  induction n using Nat.strongRecOn with
  | ind n ih =>
    rw [digs_pos h]
    by_cases h1 : n / 10 = 0
    · refine ⟨[], digB (n % 10), by rw [h1, digs_zero]; rfl, ?_⟩
      intro e
      have := congrArg UInt8.toNat e
      rw [digB_toNat (by omega)] at this
      have h48 : (48 : UInt8).toNat = 48 := rfl
      omega
    · obtain ⟨l, b, h2, h3⟩ := ih (n / 10) (by omega) h1
      exact ⟨digB (n % 10) :: l, b, by rw [h2]; rfl, h3⟩
theorem dropWhile_noughts (m : Nat) (l : List UInt8) : (List.replicate m 48 ++ l).dropWhile (· == 48) = l.dropWhile (· == 48) := by
  induction m with
  | zero => rfl
  | succ m ih => rw [List.replicate_succ, List.cons_append, List.dropWhile_cons]; simp [ih]
theorem chunks_text (n : Nat) : ((chunksN n).flatMap (padD 19)).reverse.dropWhile (· == 48) = (digs n).reverse := by
  obtain ⟨m, hm⟩ := chunks_digs n
  rw [hm, List.reverse_append, List.reverse_replicate, dropWhile_noughts]
  by_cases h : n = 0
  · subst h; rw [digs_zero]; rfl
  · obtain ⟨l, b, h1, h2⟩ := digs_top n h
    rw [h1, List.reverse_append, List.reverse_singleton, List.singleton_append, List.dropWhile_cons]
    simp [h2]
theorem digs_reverse_nil (n : Nat) : (digs n).reverse = [] ↔ n = 0 := by
  constructor
  · intro h
    apply Classical.byContradiction
    intro h0
    rw [digs_pos h0] at h
    simp at h
  · rintro rfl; rw [digs_zero]; rfl
theorem chunks_length (k : Nat) : ∀ n, n < 10 ^ k → (chunksN n).length ≤ k := by
  induction k with
  | zero => intro n h; have : n = 0 := by simp at h; omega
            subst this; rw [chunksN_zero]; simp
  | succ k ih =>
    intro n h
    by_cases h0 : n = 0
    · subst h0; rw [chunksN_zero]; simp
    · rw [chunksN_pos h0, List.length_cons]
      have := ih (n / 10000000000000000000) (by rw [Nat.pow_succ] at h; omega)
      omega
/-- One chunk's bytes, so far. -/
def chunkAt (bs : List UInt8) (n i : Nat) : List UInt8 := bs ++ padD i n
theorem chunkAt_zero (bs : List UInt8) (n : Nat) : chunkAt bs n 0 = bs := by simp [chunkAt, padD]
theorem chunkAt_succ (bs : List UInt8) (n i : Nat) : chunkAt bs n (i + 1) = chunkAt bs n i ++ [digB (n / 10 ^ i % 10)] := by
  unfold chunkAt; rw [padD_succ, List.append_assoc]
end Go.Plumb
