/-
  NatL, NatH, NatM, NatQ: as one text.
-/
import Derived.Test.YtjlaadadbpffdaaGreatDoorBase
set_option linter.unusedSimpArgs false
set_option linter.unusedVariables false
namespace Go.Plumb

def valL : List Nat → Nat
  | [] => 0
  | x :: xs => x + 18446744073709551616 * valL xs
def Limbs (l : List Nat) : Prop := ∀ x ∈ l, x < 18446744073709551616
/-- A number's limbs, the lowest first, no noughts at the end. -/
def limbs (n : Nat) : List Nat := if h : n = 0 then [] else n % 18446744073709551616 :: limbs (n / 18446744073709551616)
termination_by n
decreasing_by omega

theorem limbs_zero : limbs 0 = [] := by rw [limbs]; simp
theorem limbs_pos {n : Nat} (h : n ≠ 0) : limbs n = n % 18446744073709551616 :: limbs (n / 18446744073709551616) := by rw [limbs]; simp [h]
theorem Limbs.nil : Limbs [] := by intro x hx; cases hx
theorem Limbs.cons {x : Nat} {l : List Nat} (hx : x < 18446744073709551616) (h : Limbs l) : Limbs (x :: l) := by
  intro y hy
  rcases List.mem_cons.1 hy with rfl | hy
  · exact hx
  · exact h y hy
theorem Limbs.tail {x : Nat} {l : List Nat} (h : Limbs (x :: l)) : Limbs l := fun y hy => h y (List.mem_cons_of_mem _ hy)
theorem Limbs.head {x : Nat} {l : List Nat} (h : Limbs (x :: l)) : x < 18446744073709551616 := h x (List.mem_cons_self ..)
theorem Limbs.take {l : List Nat} (h : Limbs l) (k : Nat) : Limbs (l.take k) := fun y hy => h y (List.mem_of_mem_take hy)
theorem Limbs.drop {l : List Nat} (h : Limbs l) (k : Nat) : Limbs (l.drop k) := fun y hy => h y (List.mem_of_mem_drop hy)
theorem Limbs.append {l m : List Nat} (h : Limbs l) (h' : Limbs m) : Limbs (l ++ m) := by
  intro y hy
  rcases List.mem_append.1 hy with hy | hy
  · exact h y hy
  · exact h' y hy
theorem Limbs.set {l : List Nat} (h : Limbs l) (k x : Nat) (hx : x < 18446744073709551616) : Limbs (l.set k x) := by
  intro y hy
  rcases List.mem_or_eq_of_mem_set hy with hy | rfl
  · exact h y hy
  · exact hx
theorem Limbs.replicate (k : Nat) : Limbs (List.replicate k 0) := by
  intro y hy
  rw [(List.mem_replicate.1 hy).2]; decide
theorem Limbs.get {l : List Nat} (h : Limbs l) (j : Nat) : l.getD j 0 < 18446744073709551616 := by
  unfold List.getD
  cases e : l[j]? with
  | none => decide
  | some x => exact h x (List.mem_of_getElem? e)

theorem valL_limbs (n : Nat) : valL (limbs n) = n := by
  induction n using Nat.strongRecOn with
  | ind n ih =>
    by_cases h : n = 0
    · subst h; rw [limbs_zero]; rfl
    · rw [limbs_pos h]
      show n % 18446744073709551616 + 18446744073709551616 * valL (limbs (n / 18446744073709551616)) = n
      rw [ih _ (by omega)]; omega
theorem limbs_limbs (n : Nat) : Limbs (limbs n) := by
  induction n using Nat.strongRecOn with
  | ind n ih =>
    by_cases h : n = 0
    · subst h; rw [limbs_zero]; exact Limbs.nil
    · rw [limbs_pos h]; exact Limbs.cons (by omega) (ih _ (by omega))
theorem limbs_inj {a b : Nat} (h : limbs a = limbs b) : a = b := by rw [← valL_limbs a, h, valL_limbs]
theorem limbs_nil_iff (n : Nat) : limbs n = [] ↔ n = 0 := by
  constructor
  · intro h; rw [← valL_limbs n, h]; rfl
  · rintro rfl; exact limbs_zero
theorem limbs_last (n : Nat) (h : n ≠ 0) : (limbs n).getD ((limbs n).length - 1) 0 ≠ 0 := by
  induction n using Nat.strongRecOn with
  | ind n ih =>
    rw [limbs_pos h]
    by_cases h' : n / 18446744073709551616 = 0
    · rw [h', limbs_zero]; simp; omega
    · have := ih _ (by omega) h'
      have hl : limbs (n / 18446744073709551616) ≠ [] := fun e => h' ((limbs_nil_iff _).1 e)
      have hp : 0 < (limbs (n / 18446744073709551616)).length := List.length_pos_iff.2 hl
      rw [List.length_cons, Nat.add_sub_cancel]
      obtain ⟨k, hk⟩ : ∃ k, (limbs (n / 18446744073709551616)).length = k + 1 := ⟨_, (Nat.succ_pred_eq_of_pos hp).symm⟩
      rw [hk] at this ⊢
      simpa using this

theorem valL_append (l m : List Nat) : valL (l ++ m) = valL l + 18446744073709551616 ^ l.length * valL m := by
  induction l with
  | nil => simp [valL]
  | cons x l ih =>
    simp only [List.cons_append, valL, ih, List.length_cons, Nat.pow_succ, Nat.mul_add]
    rw [Nat.mul_comm (18446744073709551616 ^ l.length) 18446744073709551616, Nat.mul_assoc]; omega
theorem valL_lt {l : List Nat} (h : Limbs l) : valL l < 18446744073709551616 ^ l.length := by
  induction l with
  | nil => simp [valL]
  | cons x l ih =>
    have h1 := ih h.tail
    have h2 := h.head
    simp only [valL, List.length_cons, Nat.pow_succ]
    have : valL l + 1 ≤ 18446744073709551616 ^ l.length := h1
    have := Nat.mul_le_mul_left 18446744073709551616 this
    rw [Nat.mul_comm (18446744073709551616 ^ l.length)]
    omega
theorem valL_replicate (k : Nat) : valL (List.replicate k 0) = 0 := by
  induction k with
  | zero => rfl
  | succ k ih => rw [List.replicate_succ]; simp [valL, ih]
theorem valL_split (l : List Nat) (k : Nat) (h : k ≤ l.length) : valL l = valL (l.take k) + 18446744073709551616 ^ k * valL (l.drop k) := by
  conv => lhs; rw [← List.take_append_drop k l]
  rw [valL_append, List.length_take, Nat.min_eq_left h]
theorem valL_take_succ (l : List Nat) (k : Nat) (h : k < l.length) : valL (l.take (k + 1)) = valL (l.take k) + 18446744073709551616 ^ k * l.getD k 0 := by
  rw [List.take_succ_eq_append_getElem h, valL_append, List.length_take, Nat.min_eq_left (by omega)]
  simp [valL, List.getD, h]
theorem valL_drop (l : List Nat) (k : Nat) (h : k < l.length) : valL (l.drop k) = l.getD k 0 + 18446744073709551616 * valL (l.drop (k + 1)) := by
  rw [List.drop_eq_getElem_cons h]
  simp [valL, List.getD, h]
theorem valL_set (l : List Nat) (k x : Nat) (h : k < l.length) : valL (l.set k x) + 18446744073709551616 ^ k * l.getD k 0 = valL l + 18446744073709551616 ^ k * x := by
  induction l generalizing k with
  | nil => simp at h
  | cons y l ih =>
    cases k with
    | zero => simp [valL]; omega
    | succ k =>
      have := ih k (by simpa using h)
      simp only [List.set_cons_succ, valL, Nat.pow_succ, List.getD_cons_succ]
      rw [Nat.mul_comm (18446744073709551616 ^ k) 18446744073709551616, Nat.mul_assoc, Nat.mul_assoc]
      omega

/-- A list without noughts at its end is its number's. -/
theorem limbs_valL {l : List Nat} (h : Limbs l) (hl : l = [] ∨ l.getD (l.length - 1) 0 ≠ 0) : limbs (valL l) = l := by
  induction l with
  | nil => exact limbs_zero
  | cons x l ih =>
    have h2 := h.head
    have hne : valL (x :: l) ≠ 0 := by
      intro h0
      simp only [valL] at h0
      have hx : x = 0 := by omega
      have hv : valL l = 0 := by omega
      rcases hl with hl | hl
      · cases hl
      · cases l with
        | nil => simp [hx] at hl
        | cons y l =>
          have := ih h.tail (.inr (by simpa using hl))
          rw [hv, limbs_zero] at this
          cases this
    rw [limbs_pos hne]
    simp only [valL]
    have e1 : (x + 18446744073709551616 * valL l) % 18446744073709551616 = x := by omega
    have e2 : (x + 18446744073709551616 * valL l) / 18446744073709551616 = valL l := by omega
    rw [e1, e2]
    congr 1
    cases l with
    | nil => exact limbs_zero
    | cons y l => exact ih h.tail (.inr (by rcases hl with hl | hl; cases hl; simpa using hl))
/-- Noughts at the end struck off, a list is its number's. -/
theorem take_limbs {l : List Nat} (h : Limbs l) (m : Nat) (hm : m ≤ l.length) (hz : ∀ j, m ≤ j → l.getD j 0 = 0) (ht : m = 0 ∨ l.getD (m - 1) 0 ≠ 0) : l.take m = limbs (valL l) := by
  have hd : valL (l.drop m) = 0 := by
    have : ∀ r : List Nat, (∀ j, r.getD j 0 = 0) → valL r = 0 := by
      intro r
      induction r with
      | nil => intro _; rfl
      | cons x r ih =>
        intro hr
        have h0 : x = 0 := by simpa using hr 0
        have := ih fun j => by simpa using hr (j + 1)
        simp [valL, h0, this]
    apply this
    intro j
    have := hz (m + j) (by omega)
    simpa [List.getD, List.getElem?_drop] using this
  rw [valL_split l m hm, hd, Nat.mul_zero, Nat.add_zero]
  refine (limbs_valL (h.take m) ?_).symm
  rcases ht with rfl | ht
  · exact .inl (by simp)
  · by_cases h0 : m = 0
    · exact .inl (by simp [h0])
    · refine .inr ?_
      rw [List.length_take, Nat.min_eq_left hm]
      simpa [List.getD, List.getElem?_take, show m - 1 < m by omega] using ht
theorem length_limbs_le (n k : Nat) (h : n < 18446744073709551616 ^ k) : (limbs n).length ≤ k := by
  induction k generalizing n with
  | zero => have : n = 0 := by simp at h; omega
            subst this; rw [limbs_zero]; simp
  | succ k ih =>
    by_cases h0 : n = 0
    · subst h0; rw [limbs_zero]; simp
    · rw [limbs_pos h0, List.length_cons]
      have := ih (n / 18446744073709551616) (by rw [Nat.pow_succ] at h; exact (Nat.div_lt_iff_lt_mul (by decide)).2 h)
      omega
theorem lt_pow_length (n : Nat) : n < 18446744073709551616 ^ (limbs n).length := by
  have := valL_lt (limbs_limbs n)
  rwa [valL_limbs] at this
theorem pow_le_of_length (n : Nat) (h : n ≠ 0) : 18446744073709551616 ^ ((limbs n).length - 1) ≤ n := by
  have hp : 0 < (limbs n).length := List.length_pos_iff.2 fun e => h ((limbs_nil_iff n).1 e)
  obtain ⟨k, hk⟩ : ∃ k, (limbs n).length = k + 1 := ⟨_, (Nat.succ_pred_eq_of_pos hp).symm⟩
  have hl := limbs_last n h
  have e : n = valL ((limbs n).take k) + 18446744073709551616 ^ k * (limbs n).getD k 0 := by
    rw [← valL_take_succ _ _ (by omega), ← hk, List.take_length, valL_limbs]
  rw [hk, Nat.add_sub_cancel] at hl ⊢
  have := Nat.mul_le_mul_left (18446744073709551616 ^ k) (show 1 ≤ (limbs n).getD k 0 by omega)
  omega
theorem lt_of_length {a b : Nat} (h : (limbs a).length < (limbs b).length) : a < b := by
  have h1 := lt_pow_length a
  have hb : b ≠ 0 := by rintro rfl; rw [limbs_zero] at h; simp at h
  have h2 := pow_le_of_length b hb
  have := Nat.pow_le_pow_right (show 0 < 18446744073709551616 by decide) (show (limbs a).length ≤ (limbs b).length - 1 by omega)
  omega
/-- Lists of one length, alike from a place on, are ordered by what lies below it. -/
theorem valL_lt_of {a b : List Nat} (ha : Limbs a) (hlen : a.length = b.length) (i : Nat) (hi : i < a.length) (hd : a.drop (i + 1) = b.drop (i + 1)) (hlt : a.getD i 0 < b.getD i 0) : valL a < valL b := by
  rw [valL_split a (i + 1) (by omega), valL_split b (i + 1) (by omega), hd, valL_take_succ a i hi, valL_take_succ b i (by omega)]
  have h1 := valL_lt (ha.take i)
  rw [List.length_take, Nat.min_eq_left (by omega)] at h1
  have := Nat.mul_le_mul_left (18446744073709551616 ^ i) (show a.getD i 0 + 1 ≤ b.getD i 0 by omega)
  rw [Nat.mul_add, Nat.mul_one] at this
  omega
end Go.Plumb

namespace Go.Plumb

def valH : List Nat → Nat
  | [] => 0
  | x :: xs => x + 4294967296 * valH xs
def Halves (l : List Nat) : Prop := ∀ x ∈ l, x < 4294967296
/-- The digits to the base 2^32 of a list of limbs. -/
def cutH : List Nat → List Nat
  | [] => []
  | x :: xs => x % 4294967296 :: x / 4294967296 :: cutH xs
/-- Two digits a limb; an odd one alone. -/
def joinH : List Nat → List Nat
  | [] => []
  | [x] => [x]
  | x :: y :: xs => (x + y * 4294967296) :: joinH xs

theorem cutH_length (l : List Nat) : (cutH l).length = 2 * l.length := by
  induction l with
  | nil => rfl
  | cons x l ih => simp [cutH, ih]; omega
theorem cutH_append (l m : List Nat) : cutH (l ++ m) = cutH l ++ cutH m := by
  induction l with
  | nil => rfl
  | cons x l ih => simp [cutH, ih]
theorem cutH_halves {l : List Nat} (h : Limbs l) : Halves (cutH l) := by
  induction l with
  | nil => intro x hx; cases hx
  | cons x l ih =>
    have h1 := h.head
    have h2 := ih h.tail
    intro y hy
    simp only [cutH, List.mem_cons] at hy
    rcases hy with rfl | rfl | hy
    · omega
    · omega
    · exact h2 y hy
theorem valH_cut (l : List Nat) : valH (cutH l) = valL l := by
  induction l with
  | nil => rfl
  | cons x l ih => simp only [cutH, valH, valL, ih]; omega
theorem valH_append (l m : List Nat) : valH (l ++ m) = valH l + 4294967296 ^ l.length * valH m := by
  induction l with
  | nil => simp [valH]
  | cons x l ih =>
    simp only [List.cons_append, valH, ih, List.length_cons, Nat.pow_succ, Nat.mul_add]
    rw [Nat.mul_comm (4294967296 ^ l.length) 4294967296, Nat.mul_assoc]; omega
theorem valH_lt {l : List Nat} (h : Halves l) : valH l < 4294967296 ^ l.length := by
  induction l with
  | nil => simp [valH]
  | cons x l ih =>
    have h1 := ih (fun y hy => h y (List.mem_cons_of_mem _ hy))
    have h2 := h x (List.mem_cons_self ..)
    simp only [valH, List.length_cons, Nat.pow_succ]
    have : valH l + 1 ≤ 4294967296 ^ l.length := h1
    have := Nat.mul_le_mul_left 4294967296 this
    rw [Nat.mul_comm (4294967296 ^ l.length)]
    omega
theorem valH_replicate (k : Nat) : valH (List.replicate k 0) = 0 := by
  induction k with
  | zero => rfl
  | succ k ih => rw [List.replicate_succ]; simp [valH, ih]
theorem valH_split (l : List Nat) (k : Nat) (h : k ≤ l.length) : valH l = valH (l.take k) + 4294967296 ^ k * valH (l.drop k) := by
  conv => lhs; rw [← List.take_append_drop k l]
  rw [valH_append, List.length_take, Nat.min_eq_left h]
theorem valH_take_succ (l : List Nat) (k : Nat) (h : k < l.length) : valH (l.take (k + 1)) = valH (l.take k) + 4294967296 ^ k * l.getD k 0 := by
  rw [List.take_succ_eq_append_getElem h, valH_append, List.length_take, Nat.min_eq_left (by omega)]
  simp [valH, List.getD, h]
theorem valH_set (l : List Nat) (k x : Nat) (h : k < l.length) : valH (l.set k x) + 4294967296 ^ k * l.getD k 0 = valH l + 4294967296 ^ k * x := by
  induction l generalizing k with
  | nil => simp at h
  | cons y l ih =>
    cases k with
    | zero => simp [valH]; omega
    | succ k =>
      have := ih k (by simpa using h)
      simp only [List.set_cons_succ, valH, Nat.pow_succ, List.getD_cons_succ]
      rw [Nat.mul_comm (4294967296 ^ k) 4294967296, Nat.mul_assoc, Nat.mul_assoc]
      omega
theorem valL_join (l : List Nat) : valL (joinH l) = valH l := by
  induction l using joinH.induct with
  | case1 => rfl
  | case2 x => simp [joinH, valL, valH]
  | case3 x y xs ih => simp only [joinH, valL, valH, ih]; omega
theorem joinH_limbs {l : List Nat} (h : Halves l) : Limbs (joinH l) := by
  induction l using joinH.induct with
  | case1 => exact Limbs.nil
  | case2 x =>
    have := h x (List.mem_cons_self ..)
    exact Limbs.cons (by omega) Limbs.nil
  | case3 x y xs ih =>
    have h1 := h x (List.mem_cons_self ..)
    have h2 := h y (List.mem_cons_of_mem _ (List.mem_cons_self ..))
    exact Limbs.cons (by omega) (ih fun z hz => h z (List.mem_cons_of_mem _ (List.mem_cons_of_mem _ hz)))
theorem joinH_length (l : List Nat) : (joinH l).length = (l.length + 1) / 2 := by
  induction l using joinH.induct with
  | case1 => rfl
  | case2 x => simp [joinH]
  | case3 x y xs ih => simp only [joinH, List.length_cons, ih]; omega
theorem joinH_take (l : List Nat) (k : Nat) : (joinH l).take k = joinH (l.take (2 * k)) := by
  induction l using joinH.induct generalizing k with
  | case1 => simp [joinH]
  | case2 x =>
    cases k with
    | zero => simp [joinH]
    | succ k => simp [joinH, show 2 * (k + 1) = 2 * k + 1 + 1 by omega]
  | case3 x y xs ih =>
    cases k with
    | zero => simp [joinH]
    | succ k => rw [show 2 * (k + 1) = 2 * k + 1 + 1 by omega]; simp [joinH, ih]
theorem joinH_get (l : List Nat) (k : Nat) (h : 2 * k < l.length) : (joinH l).getD k 0 = l.getD (2 * k) 0 + l.getD (2 * k + 1) 0 * 4294967296 := by
  induction l using joinH.induct generalizing k with
  | case1 => simp at h
  | case2 x =>
    obtain rfl : k = 0 := by simp at h; omega
    have e1 : ([x] : List Nat).getD (2 * 0 + 1) 0 = 0 := rfl
    have e2 : ([x] : List Nat).getD (2 * 0) 0 = x := rfl
    have e3 : (joinH [x]).getD 0 0 = x := rfl
    rw [e1, e2, e3, Nat.zero_mul, Nat.add_zero]
  | case3 x y xs ih =>
    cases k with
    | zero =>
      have e1 : (x :: y :: xs).getD (2 * 0 + 1) 0 = y := rfl
      have e2 : (x :: y :: xs).getD (2 * 0) 0 = x := rfl
      rw [e1, e2, joinH, List.getD_cons_zero]
    | succ k =>
      have := ih k (by simp at h; omega)
      have e0 : joinH (x :: y :: xs) = (x + y * 4294967296) :: joinH xs := by rw [joinH]
      rw [e0, show 2 * (k + 1) = 2 * k + 1 + 1 by omega, List.getD_cons_succ, List.getD_cons_succ, List.getD_cons_succ, List.getD_cons_succ, List.getD_cons_succ]
      exact this
end Go.Plumb

namespace Go.Plumb

/-- The limbs of a list's number are the list, cut. -/
theorem limbs_take {l : List Nat} (h : Limbs l) : l.take (limbs (valL l)).length = limbs (valL l) := by
  have key : ∀ k, k ≤ l.length → (∀ j, k ≤ j → l.getD j 0 = 0) → ∃ m, m ≤ l.length ∧ l.take m = limbs (valL l) := by
    intro k
    induction k with
    | zero => intro _ hz; exact ⟨0, Nat.zero_le _, take_limbs h 0 (Nat.zero_le _) (fun j _ => hz j (Nat.zero_le _)) (.inl rfl)⟩
    | succ k ih =>
      intro hk hz
      by_cases h0 : l.getD k 0 = 0
      · exact ih (by omega) fun j hj => by
          by_cases hjk : j = k
          · rw [hjk]; exact h0
          · exact hz j (by omega)
      · exact ⟨k + 1, hk, take_limbs h (k + 1) hk (fun j hj => hz j hj) (.inr (by simpa using h0))⟩
  obtain ⟨m, hm, e⟩ := key l.length (Nat.le_refl _) (fun j hj => by simp [List.getD, List.getElem?_eq_none hj])
  rw [← e, List.length_take, Nat.min_eq_left hm]
theorem limbs_length_le {l : List Nat} (h : Limbs l) : (limbs (valL l)).length ≤ l.length := by
  rw [← limbs_take h]; simp; omega
theorem valL_take_any (l : List Nat) (k : Nat) : valL (l.take (k + 1)) = valL (l.take k) + 18446744073709551616 ^ k * l.getD k 0 := by
  by_cases h : k < l.length
  · exact valL_take_succ l k h
  · have e : l.getD k 0 = 0 := by simp [List.getD, List.getElem?_eq_none (Nat.le_of_not_lt h)]
    rw [e, List.take_of_length_le (by omega), List.take_of_length_le (by omega)]; omega
theorem valL_one (x : Nat) : valL [x] = x := by simp [valL]
theorem adds_step (la lb os : List Nat) (i cy x y : Nat) (hos : os.length = i) (hv : valL os + 18446744073709551616 ^ i * cy = valL (la.take i) + valL (lb.take i)) (hx : la.getD i 0 = x) (hy : lb.getD i 0 = y) :
    valL (os ++ [(x + y + cy) % 18446744073709551616]) + 18446744073709551616 ^ (i + 1) * ((x + y + cy) / 18446744073709551616) = valL (la.take (i + 1)) + valL (lb.take (i + 1)) := by
  rw [valL_append, hos, valL_take_any la i, valL_take_any lb i, hx, hy]
  have e : valL [(x + y + cy) % 18446744073709551616] = (x + y + cy) % 18446744073709551616 := by simp [valL]
  rw [e, Nat.pow_succ, Nat.mul_assoc]
  have e2 : (x + y + cy) % 18446744073709551616 + 18446744073709551616 * ((x + y + cy) / 18446744073709551616) = x + y + cy := by omega
  have e3 := congrArg (18446744073709551616 ^ i * ·) e2
  simp only [Nat.mul_add] at e3 ⊢
  omega
/-- Noughts, the first ones overwritten. -/
def fillL (os : List Nat) (n : Nat) : List Nat := os ++ List.replicate (n - os.length) 0
theorem fillL_length (os : List Nat) (n : Nat) (h : os.length ≤ n) : (fillL os n).length = n := by simp [fillL]; omega
theorem fillL_set (os : List Nat) (n x : Nat) (h : os.length < n) : (fillL os n).set os.length x = fillL (os ++ [x]) n := by
  unfold fillL
  rw [List.set_append_right _ _ (Nat.le_refl _), Nat.sub_self]
  obtain ⟨k, hk⟩ : ∃ k, n - os.length = k + 1 := ⟨n - os.length - 1, by omega⟩
  rw [hk, List.replicate_succ]
  have e : n - (os ++ [x]).length = k := by simp; omega
  rw [e]; simp
theorem fillL_at (os : List Nat) (n : Nat) (h : os.length < n) : (fillL os n)[os.length]? = some 0 := by
  unfold fillL
  rw [List.getElem?_append_right (Nat.le_refl _), Nat.sub_self]
  obtain ⟨k, hk⟩ : ∃ k, n - os.length = k + 1 := ⟨n - os.length - 1, by omega⟩
  rw [hk]; rfl
theorem fillL_nil (n : Nat) : fillL [] n = List.replicate n 0 := by simp [fillL]
theorem fillL_full (os : List Nat) : fillL os os.length = os := by simp [fillL]
/-- The borrow. -/
def borrowN (x y c : Nat) : Nat := if x < y + c then 1 else 0
theorem borrowN_le (x y c : Nat) : borrowN x y c ≤ 1 := by unfold borrowN; split <;> omega
def subN (x y c : Nat) : Nat := (x + 18446744073709551616 - y - c) % 18446744073709551616
theorem subs_step (la lb os : List Nat) (i bo x y : Nat) (hos : os.length = i) (hbo : bo ≤ 1) (hxl : x < 18446744073709551616) (hyl : y < 18446744073709551616) (hv : valL os + valL (lb.take i) = valL (la.take i) + 18446744073709551616 ^ i * bo) (hx : la.getD i 0 = x) (hy : lb.getD i 0 = y) :
    valL (os ++ [subN x y bo]) + valL (lb.take (i + 1)) = valL (la.take (i + 1)) + 18446744073709551616 ^ (i + 1) * borrowN x y bo := by
  rw [valL_append, hos, valL_take_any la i, valL_take_any lb i, hx, hy, valL_one, Nat.pow_succ, Nat.mul_assoc]
  have e2 : subN x y bo + y + bo = x + 18446744073709551616 * borrowN x y bo := by unfold subN borrowN; split <;> omega
  have e3 := congrArg (18446744073709551616 ^ i * ·) e2
  simp only [Nat.mul_add] at e3 ⊢
  omega
/-- Behind the last limb no borrow is left, and the difference stands there. -/
theorem subs_end (la lb os : List Nat) (bo : Nat) (hos : os.length = la.length) (hl : Limbs os) (hle : valL lb ≤ valL la) (hlen : lb.length ≤ la.length) (hv : valL os + valL (lb.take la.length) = valL (la.take la.length) + 18446744073709551616 ^ la.length * bo) :
    valL os = valL la - valL lb := by
  rw [List.take_length, List.take_of_length_le hlen] at hv
  have h1 := valL_lt hl
  rw [hos] at h1
  have : bo = 0 := by
    apply Nat.eq_zero_of_not_pos
    intro h0
    have := Nat.mul_le_mul_left (18446744073709551616 ^ la.length) (show 1 ≤ bo from h0)
    omega
  subst this
  omega
/-- One limb of a product, with what was there and what is carried. -/
theorem mul_limb (P cy o h l l2 c h2 o2 c2 : Nat) (hP : P ≤ 340282366920938463426481119284349108225) (hcy : cy < 18446744073709551616) (ho : o < 18446744073709551616)
    (e1 : h = P / 18446744073709551616) (e2 : l = P % 18446744073709551616) (e3 : l2 = (l + cy) % 18446744073709551616) (e4 : c = (l + cy) / 18446744073709551616) (e5 : h2 = h + c)
    (e6 : o2 = (o + l2) % 18446744073709551616) (e7 : c2 = (o + l2) / 18446744073709551616) : o2 + 18446744073709551616 * (h2 + c2) = P + cy + o ∧ h2 + c2 < 18446744073709551616 := by omega
theorem muls_step (la lo os : List Nat) (n i cy x o o2 cy2 : Nat) (hos : os.length = i) (hv : valL os + 18446744073709551616 ^ i * cy = valL (lo.take i) + valL (la.take i) * n) (hx : la.getD i 0 = x) (hy : lo.getD i 0 = o)
    (h : o2 + 18446744073709551616 * cy2 = x * n + cy + o) : valL (os ++ [o2]) + 18446744073709551616 ^ (i + 1) * cy2 = valL (lo.take (i + 1)) + valL (la.take (i + 1)) * n := by
  rw [valL_append, hos, valL_take_any la i, valL_take_any lo i, hx, hy, valL_one, Nat.pow_succ, Nat.mul_assoc, Nat.add_mul, Nat.mul_assoc _ x n]
  have e3 := congrArg (18446744073709551616 ^ i * ·) h
  simp only [Nat.mul_add] at e3 ⊢
  omega
/-- A list, its first ones overwritten. -/
def overL (os lo : List Nat) : List Nat := os ++ lo.drop os.length
theorem overL_length (os lo : List Nat) (h : os.length ≤ lo.length) : (overL os lo).length = lo.length := by simp [overL]; omega
theorem overL_nil (lo : List Nat) : overL [] lo = lo := by simp [overL]
theorem overL_full (os lo : List Nat) (h : os.length = lo.length) : overL os lo = os := by simp [overL, h]
theorem overL_at (os lo : List Nat) : (overL os lo)[os.length]? = lo[os.length]? := by
  unfold overL
  rw [List.getElem?_append_right (Nat.le_refl _), Nat.sub_self, List.getElem?_drop]; rfl
theorem overL_set (os lo : List Nat) (x : Nat) (h : os.length < lo.length) : (overL os lo).set os.length x = overL (os ++ [x]) lo := by
  unfold overL
  rw [List.set_append_right _ _ (Nat.le_refl _), Nat.sub_self, List.drop_eq_getElem_cons h, List.set_cons_zero]
  simp
theorem overL_limbs {os lo : List Nat} (h : Limbs os) (h' : Limbs lo) : Limbs (overL os lo) := h.append (h'.drop _)

/-! ### Shifts -/
theorem pow_split (r : Nat) (h : r < 64) : (2 : Nat) ^ r * 2 ^ (64 - r) = 18446744073709551616 := by
  rw [← Nat.pow_add, show r + (64 - r) = 64 by omega]
theorem shl_hi (x r : Nat) (h : r < 64) : x / 2 ^ (64 - r) = x * 2 ^ r / 18446744073709551616 := by
  rw [← pow_split r h, Nat.mul_comm x, Nat.mul_div_mul_left _ _ (Nat.two_pow_pos r)]
/-- One round of a shift to the left: limb p takes the lower part of x, limb p + 1 the upper one. -/
theorem shl_step (o : List Nat) (p r x o' h : Nat) (hp : p + 1 < o.length) (hz : o.getD (p + 1) 0 = 0) (ho : o' = o.getD p 0 + x * 2 ^ r % 18446744073709551616) (hh : h = x * 2 ^ r / 18446744073709551616) :
    valL ((o.set p o').set (p + 1) h) = valL o + 18446744073709551616 ^ p * (x * 2 ^ r) := by
  have h1 := valL_set o p o' (by omega)
  have h2 := valL_set (o.set p o') (p + 1) h (by simpa using hp)
  have h3 : (o.set p o').getD (p + 1) 0 = 0 := by
    refine Eq.trans ?_ hz; unfold List.getD; rw [List.getElem?_set_ne (by omega)]
  rw [h3, Nat.mul_zero, Nat.add_zero] at h2
  rw [h2, Nat.pow_succ, Nat.mul_assoc]
  have e2 : o' + 18446744073709551616 * h = o.getD p 0 + x * 2 ^ r := by rw [ho, hh]; omega
  have e3 := congrArg (18446744073709551616 ^ p * ·) e2
  simp only [Nat.mul_add] at e3
  omega
/-- A list shifted right by fewer than 64 bits. -/
def shrL (r : Nat) : List Nat → List Nat
  | [] => []
  | x :: l => (x / 2 ^ r + l.headD 0 * 2 ^ (64 - r) % 18446744073709551616) :: shrL r l
theorem shrL_length (r : Nat) (l : List Nat) : (shrL r l).length = l.length := by
  induction l with
  | nil => rfl
  | cons x l ih => simp [shrL, ih]
theorem shr_low (x r v : Nat) (hr : r < 64) : (x + 18446744073709551616 * v) / 2 ^ r = x / 2 ^ r + v * 2 ^ (64 - r) := by
  rw [← pow_split r hr, Nat.mul_assoc, Nat.add_mul_div_left _ _ (Nat.two_pow_pos r), Nat.mul_comm v]
theorem valL_shrL (r : Nat) (hr : r < 64) (l : List Nat) : valL (shrL r l) = valL l / 2 ^ r := by
  induction l with
  | nil => simp [shrL, valL]
  | cons x l ih =>
    simp only [shrL, valL]
    rw [ih, shr_low x r _ hr]
    cases l with
    | nil => simp [valL]
    | cons y t =>
      simp only [List.headD_cons, valL]
      rw [shr_low y r _ hr]
      have e : (y + 18446744073709551616 * valL t) * 2 ^ (64 - r) = y * 2 ^ (64 - r) + 18446744073709551616 * (valL t * 2 ^ (64 - r)) := by
        rw [Nat.add_mul, Nat.mul_assoc]
      have e2 : y / 2 ^ r = y * 2 ^ (64 - r) / 18446744073709551616 := by
        rw [← pow_split r hr, Nat.mul_comm y, Nat.mul_comm (2 ^ r), Nat.mul_div_mul_left _ _ (Nat.two_pow_pos _)]
      rw [e, e2]
      omega
theorem shrL_get (r : Nat) (l : List Nat) (i : Nat) (h : i < l.length) : (shrL r l).getD i 0 = l.getD i 0 / 2 ^ r + l.getD (i + 1) 0 * 2 ^ (64 - r) % 18446744073709551616 := by
  induction l generalizing i with
  | nil => simp at h
  | cons x l ih =>
    cases i with
    | zero => cases l <;> simp [shrL]
    | succ i =>
      simp only [shrL, List.getD_cons_succ]
      exact ih i (by simpa using h)
theorem shr_limb (x y r : Nat) (hr : r < 64) (hx : x < 18446744073709551616) : x / 2 ^ r + y * 2 ^ (64 - r) % 18446744073709551616 < 18446744073709551616 := by
  have hp := pow_split r hr
  have h1 : x / 2 ^ r < 2 ^ (64 - r) := by
    rw [Nat.div_lt_iff_lt_mul (Nat.two_pow_pos r), Nat.mul_comm, hp]; exact hx
  have h2 : y * 2 ^ (64 - r) % 18446744073709551616 = y % 2 ^ r * 2 ^ (64 - r) := by
    rw [← hp, Nat.mul_mod_mul_right]
  have h3 : y % 2 ^ r + 1 ≤ 2 ^ r := Nat.mod_lt _ (Nat.two_pow_pos r)
  have h4 := Nat.mul_le_mul_right (2 ^ (64 - r)) h3
  rw [hp, Nat.add_mul] at h4
  omega
theorem shrL_limbs (r : Nat) (hr : r < 64) {l : List Nat} (h : Limbs l) : Limbs (shrL r l) := by
  induction l with
  | nil => exact Limbs.nil
  | cons x l ih => exact Limbs.cons (shr_limb _ _ _ hr h.head) (ih h.tail)
theorem valL_div_pow (l : List Nat) (n : Nat) (hl : Limbs l) (h : n ≤ l.length) : valL l / 18446744073709551616 ^ n = valL (l.drop n) := by
  have h1 := valL_lt (hl.take n)
  rw [List.length_take, Nat.min_eq_left h] at h1
  rw [valL_split l n h, Nat.add_comm, Nat.mul_add_div (Nat.pow_pos (by decide)), Nat.div_eq_of_lt h1, Nat.add_zero]
theorem pow64 (k : Nat) : 18446744073709551616 ^ (k / 64) * 2 ^ (k % 64) = 2 ^ k := by
  have : (18446744073709551616 : Nat) = 2 ^ 64 := by decide
  rw [this, ← Nat.pow_mul, ← Nat.pow_add, Nat.div_add_mod]
theorem shr_value (l : List Nat) (k : Nat) (hl : Limbs l) (h : k / 64 ≤ l.length) : valL (shrL (k % 64) (l.drop (k / 64))) = valL l / 2 ^ k := by
  rw [valL_shrL _ (Nat.mod_lt _ (by decide)), ← valL_div_pow l _ hl h, Nat.div_div_eq_div_mul, pow64]
theorem shr_beyond (l : List Nat) (k : Nat) (hl : Limbs l) (h : l.length ≤ k / 64) : valL l / 2 ^ k = 0 := by
  apply Nat.div_eq_of_lt
  rw [← pow64 k]
  have h1 := valL_lt hl
  have h2 := Nat.pow_le_pow_right (show 0 < 18446744073709551616 by decide) h
  have h3 := Nat.mul_le_mul_left (18446744073709551616 ^ (k / 64)) (Nat.two_pow_pos (k % 64))
  omega
/-- What a shift to the right loses. -/
theorem shr_lost (l : List Nat) (k : Nat) (hl : Limbs l) (h : k / 64 < l.length) : valL l % 2 ^ k = 0 ↔ (∀ j, j < k / 64 → l.getD j 0 = 0) ∧ l.getD (k / 64) 0 % 2 ^ (k % 64) = 0 := by
  obtain ⟨n, hn⟩ : ∃ n, k / 64 = n := ⟨_, rfl⟩
  obtain ⟨r, hr⟩ : ∃ r, k % 64 = r := ⟨_, rfl⟩
  have hr64 : r < 64 := by rw [← hr]; exact Nat.mod_lt _ (by decide)
  have hk := pow64 k
  rw [hn, hr] at hk
  rw [hn] at h ⊢
  rw [hr, ← hk]
  have h1 := valL_lt (hl.take n)
  rw [List.length_take, Nat.min_eq_left (by omega)] at h1
  have key : valL l = valL (l.take n) + 18446744073709551616 ^ n * (l.getD n 0 + 18446744073709551616 * valL (l.drop (n + 1))) := by
    rw [← valL_drop l n h]; exact valL_split l n (by omega)
  have zeros : valL (l.take n) = 0 ↔ ∀ j, j < n → l.getD j 0 = 0 := by
    clear key h1 hk hn
    induction n with
    | zero => simp [valL]
    | succ n ih =>
      rw [valL_take_any]
      constructor
      · intro h0 j hj
        have hp : 0 < 18446744073709551616 ^ n := Nat.pow_pos (by decide)
        have h1 : valL (l.take n) = 0 := by omega
        have h2 : 18446744073709551616 ^ n * l.getD n 0 = 0 := by omega
        have h3 : l.getD n 0 = 0 := by
          rcases Nat.mul_eq_zero.1 h2 with h | h
          · omega
          · exact h
        by_cases hjn : j = n
        · rw [hjn]; exact h3
        · exact (ih (by omega)).1 h1 j (by omega)
      · intro h0
        rw [(ih (by omega)).2 fun j hj => h0 j (by omega), h0 n (by omega)]; simp
  rw [← zeros, key, Nat.mod_mul, Nat.add_mul_mod_self_left, Nat.mod_eq_of_lt h1, Nat.add_mul_div_left _ _ (Nat.pow_pos (by decide)), Nat.div_eq_of_lt h1, Nat.zero_add]
  have e : (l.getD n 0 + 18446744073709551616 * valL (l.drop (n + 1))) % 2 ^ r = l.getD n 0 % 2 ^ r := by
    rw [← pow_split r hr64, Nat.mul_assoc, Nat.add_mul_mod_self_left]
  rw [e]
  have hp : 0 < 18446744073709551616 ^ n := Nat.pow_pos (by decide)
  constructor
  · intro h0
    refine ⟨by omega, ?_⟩
    have h2 : 18446744073709551616 ^ n * (l.getD n 0 % 2 ^ r) = 0 := by omega
    rcases Nat.mul_eq_zero.1 h2 with h | h
    · omega
    · exact h
  · rintro ⟨a, b⟩
    rw [a, b]; simp
end Go.Plumb

namespace Go.Plumb

theorem getD_drop (l : List Nat) (j k : Nat) : (l.drop j).getD k 0 = l.getD (j + k) 0 := by
  simp [List.getD, List.getElem?_drop]
theorem getD_take (l : List Nat) (j k : Nat) (h : k < j) : (l.take j).getD k 0 = l.getD k 0 := by
  simp [List.getD, h]
/-- The top limb bounds a number from below. -/
theorem valL_top (v : List Nat) (n : Nat) (h : n + 1 ≤ v.length) : 18446744073709551616 ^ n * v.getD n 0 ≤ valL v := by
  rw [valL_split v (n + 1) h, valL_take_succ v n (by omega)]
  omega
/-- The guess is never too small. -/
theorem guess_ge (w v : List Nat) (n W V : Nat) (hw : Limbs w) (hlen : w.length = n + 2) (hvl : v.length = n + 1) (hW : valL w = W) (hV : valL v = V)
    (ht : 0 < v.getD n 0) : W / V ≤ (w.getD (n + 1) 0 * 18446744073709551616 + w.getD n 0) / v.getD n 0 := by
  obtain ⟨t, hte⟩ : ∃ t, v.getD n 0 = t := ⟨_, rfl⟩
  obtain ⟨w1, hw1⟩ : ∃ t, w.getD (n + 1) 0 = t := ⟨_, rfl⟩
  obtain ⟨w0, hw0⟩ : ∃ t, w.getD n 0 = t := ⟨_, rfl⟩
  rw [hte] at ht
  rw [hte, hw1, hw0]
  have hVt := valL_top v n (by omega)
  rw [hV, hte] at hVt
  have h1 := valL_lt (hw.take n)
  rw [List.length_take, Nat.min_eq_left (by omega)] at h1
  have e1 : W = valL (w.take n) + 18446744073709551616 ^ n * (w1 * 18446744073709551616 + w0) := by
    have h2 := valL_take_succ w (n + 1) (by omega)
    rw [show n + 1 + 1 = w.length by omega, List.take_length, hW, valL_take_succ w n (by omega), hw1, hw0, Nat.pow_succ] at h2
    rw [h2, Nat.mul_add, ← Nat.mul_assoc, Nat.mul_right_comm]
    omega
  rw [Nat.le_div_iff_mul_le ht]
  have h3 : W / V * V ≤ W := Nat.div_mul_le_self _ _
  have h4 := Nat.mul_le_mul_left (W / V) hVt
  have h5 : 18446744073709551616 ^ n * (W / V * t) < 18446744073709551616 ^ n * (w1 * 18446744073709551616 + w0 + 1) := by
    have : W / V * (18446744073709551616 ^ n * t) = 18446744073709551616 ^ n * (W / V * t) := by
      rw [← Nat.mul_assoc, Nat.mul_comm (W / V), Nat.mul_assoc]
    rw [this] at h4
    rw [Nat.mul_add, Nat.mul_one]
    omega
  have := Nat.lt_of_mul_lt_mul_left h5
  omega
/-- What lies in a round of the division: its limbs, and nothing above them. -/
theorem div_round (u : List Nat) (j n V : Nat) (hu : Limbs u) (hjn : j + n + 1 ≤ u.length) (hV : V < 18446744073709551616 ^ n) (h : valL (u.drop (j + 1)) < V) :
    valL (u.drop (j + n + 1)) = 0 ∧ valL (u.drop j) = valL ((u.drop j).take (n + 1)) ∧ valL (u.drop j) < 18446744073709551616 * V := by
  have h1 := valL_split (u.drop (j + 1)) n (by simp; omega)
  rw [List.drop_drop, show j + 1 + n = j + n + 1 by omega] at h1
  have hz : valL (u.drop (j + n + 1)) = 0 := by
    apply Nat.eq_zero_of_not_pos
    intro h0
    have := Nat.mul_le_mul_left (18446744073709551616 ^ n) (show 1 ≤ valL (u.drop (j + n + 1)) from h0)
    omega
  refine ⟨hz, ?_, ?_⟩
  · have h2 := valL_split (u.drop j) (n + 1) (by simp; omega)
    rw [List.drop_drop, show j + (n + 1) = j + n + 1 by omega, hz, Nat.mul_zero, Nat.add_zero] at h2
    exact h2
  · rw [valL_drop u j (by omega)]
    have := hu.get j
    omega
/-- A list with a part written over. -/
def patch (u : List Nat) (j : Nat) (r : List Nat) : List Nat := u.take j ++ r ++ u.drop (j + r.length)
theorem patch_length (u : List Nat) (j : Nat) (r : List Nat) (h : j + r.length ≤ u.length) : (patch u j r).length = u.length := by simp [patch]; omega
theorem patch_limbs {u r : List Nat} (h : Limbs u) (h' : Limbs r) (j : Nat) : Limbs (patch u j r) := ((h.take j).append h').append (h.drop _)
theorem patch_value (u : List Nat) (j : Nat) (r : List Nat) (h : j + r.length ≤ u.length) : valL (patch u j r) + 18446744073709551616 ^ j * valL ((u.drop j).take r.length) = valL u + 18446744073709551616 ^ j * valL r := by
  have h1 := valL_split u j (by omega)
  have h2 := valL_split (u.drop j) r.length (by simp; omega)
  rw [List.drop_drop] at h2
  have h3 : valL (patch u j r) = valL (u.take j) + 18446744073709551616 ^ j * (valL r + 18446744073709551616 ^ r.length * valL (u.drop (j + r.length))) := by
    unfold patch
    rw [List.append_assoc, valL_append, valL_append, List.length_take, Nat.min_eq_left (by omega)]
  rw [h3, h1, h2, Nat.mul_add, Nat.mul_add]
  omega
theorem patch_drop (u : List Nat) (j : Nat) (r : List Nat) (h : j + r.length ≤ u.length) : valL ((patch u j r).drop j) = valL r + 18446744073709551616 ^ r.length * valL (u.drop (j + r.length)) := by
  unfold patch
  rw [List.append_assoc, List.drop_append_of_le_length (by simp; omega), List.drop_take, Nat.sub_self, List.take_zero, List.nil_append, valL_append]
/-- A list, noughts behind it to a length. -/
theorem valL_pad (r : List Nat) (k : Nat) : valL (r ++ List.replicate k 0) = valL r := by
  rw [valL_append, valL_replicate, Nat.mul_zero, Nat.add_zero]
theorem fillL_value (r : List Nat) (n : Nat) : valL (fillL r n) = valL r := valL_pad r _
theorem fillL_limbs {r : List Nat} (h : Limbs r) (n : Nat) : Limbs (fillL r n) := h.append (Limbs.replicate _)

theorem quot_unique (U V q r : Nat) (h : q * V + r = U) (hr : r < V) : q = U / V ∧ r = U % V := by
  subst h
  constructor
  · rw [Nat.add_comm, Nat.add_mul_div_right _ _ (by omega), Nat.div_eq_of_lt hr, Nat.zero_add]
  · rw [Nat.add_comm, Nat.add_mul_mod_self_right, Nat.mod_eq_of_lt hr]
theorem shifted_div (A B k : Nat) : (A * 2 ^ k) / (B * 2 ^ k) = A / B := Nat.mul_div_mul_right _ _ (Nat.two_pow_pos k)
theorem shifted_mod (A B k : Nat) : (A * 2 ^ k) % (B * 2 ^ k) / 2 ^ k = A % B := by
  rw [Nat.mul_mod_mul_right, Nat.mul_div_left _ (Nat.two_pow_pos k)]
/-- The greatest guess that fits is the quotient. -/
theorem guess_fits (W V g : Nat) (h1 : W / V ≤ g) (h2 : g * V ≤ W) (hV : 0 < V) : g = W / V := by
  have := (Nat.le_div_iff_mul_le hV).2 h2
  omega
theorem guess_less (W V g : Nat) (h1 : W / V ≤ g) (h2 : W < g * V) (hV : 0 < V) : 1 ≤ g ∧ W / V ≤ g - 1 := by
  have : W / V < g := (Nat.div_lt_iff_lt_mul hV).2 h2
  generalize W / V = q at *
  omega

/-! ### Roots -/
/-- A number's root, by counting. -/
def isqN : Nat → Nat
  | 0 => 0
  | n + 1 => if (isqN n + 1) * (isqN n + 1) ≤ n + 1 then isqN n + 1 else isqN n
theorem isqN_spec (n : Nat) : isqN n * isqN n ≤ n ∧ n < (isqN n + 1) * (isqN n + 1) := by
  induction n with
  | zero => decide
  | succ n ih =>
    unfold isqN
    split
    · rename_i h
      refine ⟨h, ?_⟩
      have : (isqN n + 1 + 1) * (isqN n + 1 + 1) = (isqN n + 1) * (isqN n + 1) + 2 * (isqN n + 1) + 1 := by
        rw [Nat.add_mul, Nat.mul_add]; omega
      omega
    · rename_i h
      omega
theorem sq_le {a b : Nat} (h : a * a < (b + 1) * (b + 1)) : a ≤ b := by
  apply Nat.le_of_not_lt
  intro hlt
  have := Nat.mul_le_mul (show b + 1 ≤ a from hlt) (show b + 1 ≤ a from hlt)
  omega
theorem isqN_unique (n s : Nat) (h1 : s * s ≤ n) (h2 : n < (s + 1) * (s + 1)) : isqN n = s := by
  have h := isqN_spec n
  exact Nat.le_antisymm (sq_le (by omega)) (sq_le (by omega))
/-- Newton's step stays at or above the root. -/
theorem newton_ge (A s x : Nat) (hx : 0 < x) (hs : s * s ≤ A) : s ≤ (x + A / x) / 2 := by
  rw [Nat.le_div_iff_mul_le (by decide)]
  by_cases h : s * 2 ≤ x
  · generalize A / x = q
    omega
  · obtain ⟨d, hd⟩ : ∃ d, s * 2 = x + d := ⟨s * 2 - x, by omega⟩
    have h1 : d ≤ A / x := by
      rw [Nat.le_div_iff_mul_le hx]
      -- d * x = (2 s - x) * x ≤ s * s
      refine Nat.le_trans ?_ hs
      rcases Nat.le_total x s with hxs | hxs
      · obtain ⟨c, rfl⟩ := Nat.exists_eq_add_of_le hxs
        have : d = x + c + c := by omega
        subst this
        have e1 : (x + c + c) * x = x * x + c * x + c * x := by rw [Nat.add_mul, Nat.add_mul]
        have e2 : (x + c) * (x + c) = x * x + c * x + (c * x + c * c) := by rw [Nat.mul_add, Nat.add_mul, Nat.add_mul, Nat.mul_comm x c]
        omega
      · obtain ⟨c, rfl⟩ := Nat.exists_eq_add_of_le hxs
        obtain ⟨f, hf⟩ : ∃ f, s = c + f := ⟨s - c, by omega⟩
        have : d = f := by omega
        subst this hf
        have e1 : d * (c + d + c) = c * d + d * d + c * d := by rw [Nat.mul_add, Nat.mul_add, Nat.mul_comm d c]
        have e2 : (c + d) * (c + d) = c * c + c * d + (c * d + d * d) := by rw [Nat.mul_add, Nat.add_mul, Nat.add_mul, Nat.mul_comm d c]
        omega
    generalize A / x = q at *
    omega
/-- Where Newton's step no longer lowers it, it is the root. -/
theorem newton_stop (A x : Nat) (hx : 0 < x) (hge : isqN A ≤ x) (h : x ≤ (x + A / x) / 2) : x = isqN A := by
  have h1 : x ≤ A / x := by omega
  have h2 : x * x ≤ A := (Nat.le_div_iff_mul_le hx).1 h1
  exact Nat.le_antisymm (sq_le (by have := isqN_spec A; omega)) hge
theorem newton_start (A n : Nat) (h : A < 2 ^ n) : isqN A ≤ 2 ^ ((n + 1) / 2) := by
  have h1 := (isqN_spec A).1
  apply sq_le
  have h2 : 2 ^ n ≤ 2 ^ ((n + 1) / 2) * 2 ^ ((n + 1) / 2) := by
    rw [← Nat.pow_add]; exact Nat.pow_le_pow_right (by decide) (by omega)
  have h3 : (2 ^ ((n + 1) / 2) + 1) * (2 ^ ((n + 1) / 2) + 1) = 2 ^ ((n + 1) / 2) * 2 ^ ((n + 1) / 2) + 2 * 2 ^ ((n + 1) / 2) + 1 := by
    rw [Nat.add_mul, Nat.mul_add]; omega
  omega
theorem isqN_pos (A : Nat) (h : A ≠ 0) : 0 < isqN A := by
  apply Nat.pos_of_ne_zero
  intro h0
  have := (isqN_spec A).2
  rw [h0] at this
  omega
end Go.Plumb
