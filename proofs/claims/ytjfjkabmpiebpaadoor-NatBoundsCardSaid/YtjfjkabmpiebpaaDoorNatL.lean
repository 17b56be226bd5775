/-
  Numbers as lists of limbs of 64 bits: plain laws, no program in sight.
-/
import Derived.Test.YtjfjkabmpiebpaaDoorBase
set_option linter.unusedSimpArgs false
set_option linter.unusedVariables false
namespace Go.Plumb

def valL : List Nat → Nat
  | [] => 0
  | x :: xs => x + 18446744073709551616 * valL xs
def Limbs (l : List Nat) : Prop := ∀ x ∈ l, x < 18446744073709551616
/-- A number's limbs, the lowest first, no noughts at the end. -/
def limbs (n : Nat) : List Nat := if h : n = 0 then [] else n % 18446744073709551616 :: limbs (n / 18446744073709551616)
termination_by n
decreasing_by omega

theorem limbs_zero : limbs 0 = [] := by rw [limbs]; simp
theorem limbs_pos {n : Nat} (h : n ≠ 0) : limbs n = n % 18446744073709551616 :: limbs (n / 18446744073709551616) := by rw [limbs]; simp [h]
theorem Limbs.nil : Limbs [] := by intro x hx; cases hx
theorem Limbs.cons {x : Nat} {l : List Nat} (hx : x < 18446744073709551616) (h : Limbs l) : Limbs (x :: l) := by
  intro y hy
  rcases List.mem_cons.1 hy with rfl | hy
  · exact hx
  · exact h y hy
theorem Limbs.tail {x : Nat} {l : List Nat} (h : Limbs (x :: l)) : Limbs l := fun y hy => h y (List.mem_cons_of_mem _ hy)
theorem Limbs.head {x : Nat} {l : List Nat} (h : Limbs (x :: l)) : x < 18446744073709551616 := h x (List.mem_cons_self ..)
theorem Limbs.take {l : List Nat} (h : Limbs l) (k : Nat) : Limbs (l.take k) := fun y hy => h y (List.mem_of_mem_take hy)
theorem Limbs.drop {l : List Nat} (h : Limbs l) (k : Nat) : Limbs (l.drop k) := fun y hy => h y (List.mem_of_mem_drop hy)
theorem Limbs.append {l m : List Nat} (h : Limbs l) (h' : Limbs m) : Limbs (l ++ m) := by
  intro y hy
  rcases List.mem_append.1 hy with hy | hy
  · exact h y hy
  · exact h' y hy
theorem Limbs.set {l : List Nat} (h : Limbs l) (k x : Nat) (hx : x < 18446744073709551616) : Limbs (l.set k x) := by
  intro y hy
  rcases List.mem_or_eq_of_mem_set hy with hy | rfl
  · exact h y hy
  · exact hx
theorem Limbs.replicate (k : Nat) : Limbs (List.replicate k 0) := by
  intro y hy
  rw [(List.mem_replicate.1 hy).2]; decide
theorem Limbs.get {l : List Nat} (h : Limbs l) (j : Nat) : l.getD j 0 < 18446744073709551616 := by
  unfold List.getD
  cases e : l[j]? with
  | none => decide
  | some x => exact h x (List.mem_of_getElem? e)

theorem valL_limbs (n : Nat) : valL (limbs n) = n := by
  induction n using Nat.strongRecOn with
  | ind n ih =>
    by_cases h : n = 0
    · subst h; rw [limbs_zero]; rfl
    · rw [limbs_pos h]
      show n % 18446744073709551616 + 18446744073709551616 * valL (limbs (n / 18446744073709551616)) = n
      rw [ih _ (by omega)]; omega
theorem limbs_limbs (n : Nat) : Limbs (limbs n) := by
  induction n using Nat.strongRecOn with
  | ind n ih =>
    by_cases h : n = 0
    · subst h; rw [limbs_zero]; exact Limbs.nil
    · rw [limbs_pos h]; exact Limbs.cons (by omega) (ih _ (by omega))
theorem limbs_inj {a b : Nat} (h : limbs a = limbs b) : a = b := by rw [← valL_limbs a, h, valL_limbs]
theorem limbs_nil_iff (n : Nat) : limbs n = [] ↔ n = 0 := by
  constructor
  · intro h; rw [← valL_limbs n, h]; rfl
  · rintro rfl; exact limbs_zero
theorem limbs_last (n : Nat) (h : n ≠ 0) : (limbs n).getD ((limbs n).length - 1) 0 ≠ 0 := by
  induction n using Nat.strongRecOn with
  | ind n ih =>
    rw [limbs_pos h]
    by_cases h' : n / 18446744073709551616 = 0
    · rw [h', limbs_zero]; simp; omega
    · have := ih _ (by omega) h'
      have hl : limbs (n / 18446744073709551616) ≠ [] := fun e => h' ((limbs_nil_iff _).1 e)
      have hp : 0 < (limbs (n / 18446744073709551616)).length := List.length_pos_iff.2 hl
      rw [List.length_cons, Nat.add_sub_cancel]
      obtain ⟨k, hk⟩ : ∃ k, (limbs (n / 18446744073709551616)).length = k + 1 := ⟨_, (Nat.succ_pred_eq_of_pos hp).symm⟩
      rw [hk] at this ⊢
      simpa using this

theorem valL_append (l m : List Nat) : valL (l ++ m) = valL l + 18446744073709551616 ^ l.length * valL m := by
  induction l with
  | nil => simp [valL]
  | cons x l ih =>
    simp only [List.cons_append, valL, ih, List.length_cons, Nat.pow_succ, Nat.mul_add]
    rw [Nat.mul_comm (18446744073709551616 ^ l.length) 18446744073709551616, Nat.mul_assoc]; omega
theorem valL_lt {l : List Nat} (h : Limbs l) : valL l < 18446744073709551616 ^ l.length := by
  induction l with
  | nil => simp [valL]
  | cons x l ih =>
    have h1 := ih h.tail
    have h2 := h.head
    simp only [valL, List.length_cons, Nat.pow_succ]
    have : valL l + 1 ≤ 18446744073709551616 ^ l.length := h1
    have := Nat.mul_le_mul_left 18446744073709551616 this
    rw [Nat.mul_comm (18446744073709551616 ^ l.length)]
    omega
theorem valL_replicate (k : Nat) : valL (List.replicate k 0) = 0 := by
  induction k with
  | zero => rfl
  | succ k ih => rw [List.replicate_succ]; simp [valL, ih]
theorem valL_split (l : List Nat) (k : Nat) (h : k ≤ l.length) : valL l = valL (l.take k) + 18446744073709551616 ^ k * valL (l.drop k) := by
  conv => lhs; rw [← List.take_append_drop k l]
  rw [valL_append, List.length_take, Nat.min_eq_left h]
theorem valL_take_succ (l : List Nat) (k : Nat) (h : k < l.length) : valL (l.take (k + 1)) = valL (l.take k) + 18446744073709551616 ^ k * l.getD k 0 := by
  rw [List.take_succ_eq_append_getElem h, valL_append, List.length_take, Nat.min_eq_left (by omega)]
  simp [valL, List.getD, h]
theorem valL_drop (l : List Nat) (k : Nat) (h : k < l.length) : valL (l.drop k) = l.getD k 0 + 18446744073709551616 * valL (l.drop (k + 1)) := by
  rw [List.drop_eq_getElem_cons h]
  simp [valL, List.getD, h]
theorem valL_set (l : List Nat) (k x : Nat) (h : k < l.length) : valL (l.set k x) + 18446744073709551616 ^ k * l.getD k 0 = valL l + 18446744073709551616 ^ k * x := by
  induction l generalizing k with
  | nil => simp at h
  | cons y l ih =>
    cases k with
    | zero => simp [valL]; omega
    | succ k =>
      have := ih k (by simpa using h)
      simp only [List.set_cons_succ, valL, Nat.pow_succ, List.getD_cons_succ]
      rw [Nat.mul_comm (18446744073709551616 ^ k) 18446744073709551616, Nat.mul_assoc, Nat.mul_assoc]
      omega

/-- A list without noughts at its end is its number's. -/
theorem limbs_valL {l : List Nat} (h : Limbs l) (hl : l = [] ∨ l.getD (l.length - 1) 0 ≠ 0) : limbs (valL l) = l := by
  induction l with
  | nil => exact limbs_zero
  | cons x l ih =>
    have h2 := h.head
    have hne : valL (x :: l) ≠ 0 := by
      intro h0
      simp only [valL] at h0
      have hx : x = 0 := by omega
      have hv : valL l = 0 := by omega
      rcases hl with hl | hl
      · cases hl
      · cases l with
        | nil => simp [hx] at hl
        | cons y l =>
          have := ih h.tail (.inr (by simpa using hl))
          rw [hv, limbs_zero] at this
          cases this
    rw [limbs_pos hne]
    simp only [valL]
    have e1 : (x + 18446744073709551616 * valL l) % 18446744073709551616 = x := by omega
    have e2 : (x + 18446744073709551616 * valL l) / 18446744073709551616 = valL l := by omega
    rw [e1, e2]
    congr 1
    cases l with
    | nil => exact limbs_zero
    | cons y l => exact ih h.tail (.inr (by rcases hl with hl | hl; cases hl; simpa using hl))
/-- Noughts at the end struck off, a list is its number's. -/
theorem take_limbs {l : List Nat} (h : Limbs l) (m : Nat) (hm : m ≤ l.length) (hz : ∀ j, m ≤ j → l.getD j 0 = 0) (ht : m = 0 ∨ l.getD (m - 1) 0 ≠ 0) : l.take m = limbs (valL l) := by
  have hd : valL (l.drop m) = 0 := by
    have : ∀ r : List Nat, (∀ j, r.getD j 0 = 0) → valL r = 0 := by
      intro r
      induction r with
      | nil => intro _; rfl
      | cons x r ih =>
        intro hr
        have h0 : x = 0 := by simpa using hr 0
        have := ih fun j => by simpa using hr (j + 1)
        simp [valL, h0, this]
    apply this
    intro j
    have := hz (m + j) (by omega)
    simpa [List.getD, List.getElem?_drop] using this
  rw [valL_split l m hm, hd, Nat.mul_zero, Nat.add_zero]
  refine (limbs_valL (h.take m) ?_).symm
  rcases ht with rfl | ht
  · exact .inl (by simp)
  · by_cases h0 : m = 0
    · exact .inl (by simp [h0])
    · refine .inr ?_
      rw [List.length_take, Nat.min_eq_left hm]
      simpa [List.getD, List.getElem?_take, show m - 1 < m by omega] using ht
theorem length_limbs_le (n k : Nat) (h : n < 18446744073709551616 ^ k) : (limbs n).length ≤ k := by
  induction k generalizing n with
  | zero => have : n = 0 := by simp at h; omega
            subst this; rw [limbs_zero]; simp
  | succ k ih =>
    by_cases h0 : n = 0
    · subst h0; rw [limbs_zero]; simp
    · rw [limbs_pos h0, List.length_cons]
      have := ih (n / 18446744073709551616) (by rw [Nat.pow_succ] at h; exact (Nat.div_lt_iff_lt_mul (by decide)).2 h)
      omega
theorem lt_pow_length (n : Nat) : n < 18446744073709551616 ^ (limbs n).length := by
  have := valL_lt (limbs_limbs n)
  rwa [valL_limbs] at this
theorem pow_le_of_length (n : Nat) (h : n ≠ 0) : 18446744073709551616 ^ ((limbs n).length - 1) ≤ n := by
  have hp : 0 < (limbs n).length := List.length_pos_iff.2 fun e => h ((limbs_nil_iff n).1 e)
  obtain ⟨k, hk⟩ : ∃ k, (limbs n).length = k + 1 := ⟨_, (Nat.succ_pred_eq_of_pos hp).symm⟩
  have hl := limbs_last n h
  have e : n = valL ((limbs n).take k) + 18446744073709551616 ^ k * (limbs n).getD k 0 := by
    rw [← valL_take_succ _ _ (by omega), ← hk, List.take_length, valL_limbs]
  rw [hk, Nat.add_sub_cancel] at hl ⊢
  have := Nat.mul_le_mul_left (18446744073709551616 ^ k) (show 1 ≤ (limbs n).getD k 0 by omega)
  omega
theorem lt_of_length {a b : Nat} (h : (limbs a).length < (limbs b).length) : a < b := by
  have h1 := lt_pow_length a
  have hb : b ≠ 0 := by rintro rfl; rw [limbs_zero] at h; simp at h
  have h2 := pow_le_of_length b hb
  have := Nat.pow_le_pow_right (show 0 < 18446744073709551616 by decide) (show (limbs a).length ≤ (limbs b).length - 1 by omega)
  omega
/-- Lists of one length, alike from a place on, are ordered by what lies below it. -/
theorem valL_lt_of {a b : List Nat} (ha : Limbs a) (hlen : a.length = b.length) (i : Nat) (hi : i < a.length) (hd : a.drop (i + 1) = b.drop (i + 1)) (hlt : a.getD i 0 < b.getD i 0) : valL a < valL b := by
  rw [valL_split a (i + 1) (by omega), valL_split b (i + 1) (by omega), hd, valL_take_succ a i hi, valL_take_succ b i (by omega)]
  have h1 := valL_lt (ha.take i)
  rw [List.length_take, Nat.min_eq_left (by omega)] at h1
  have := Nat.mul_le_mul_left (18446744073709551616 ^ i) (show a.getD i 0 + 1 ≤ b.getD i 0 by omega)
  rw [Nat.mul_add, Nat.mul_one] at this
  omega
end Go.Plumb
