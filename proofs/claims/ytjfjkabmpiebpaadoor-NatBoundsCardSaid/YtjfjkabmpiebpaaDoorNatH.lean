/-
  Numbers as lists of digits to the base 2^32: plain laws, no program in sight.
-/
import Derived.Test.YtjfjkabmpiebpaaDoorNatL
set_option linter.unusedSimpArgs false
set_option linter.unusedVariables false
namespace Go.Plumb

def valH : List Nat → Nat
  | [] => 0
  | x :: xs => x + 4294967296 * valH xs
def Halves (l : List Nat) : Prop := ∀ x ∈ l, x < 4294967296
/-- The digits to the base 2^32 of a list of limbs. -/
def cutH : List Nat → List Nat
  | [] => []
  | x :: xs => x % 4294967296 :: x / 4294967296 :: cutH xs
/-- Two digits a limb; an odd one alone. -/
def joinH : List Nat → List Nat
  | [] => []
  | [x] => [x]
  | x :: y :: xs => (x + y * 4294967296) :: joinH xs

theorem cutH_length (l : List Nat) : (cutH l).length = 2 * l.length := by
  induction l with
  | nil => rfl
  | cons x l ih => simp [cutH, ih]; omega
theorem cutH_append (l m : List Nat) : cutH (l ++ m) = cutH l ++ cutH m := by
  induction l with
  | nil => rfl
  | cons x l ih => simp [cutH, ih]
theorem cutH_halves {l : List Nat} (h : Limbs l) : Halves (cutH l) := by
  induction l with
  | nil => intro x hx; cases hx
  | cons x l ih =>
    have h1 := h.head
    have h2 := ih h.tail
    intro y hy
    simp only [cutH, List.mem_cons] at hy
    rcases hy with rfl | rfl | hy
    · omega
    · omega
    · exact h2 y hy
theorem valH_cut (l : List Nat) : valH (cutH l) = valL l := by
  induction l with
  | nil => rfl
  | cons x l ih => simp only [cutH, valH, valL, ih]; omega
theorem valH_append (l m : List Nat) : valH (l ++ m) = valH l + 4294967296 ^ l.length * valH m := by
  induction l with
  | nil => simp [valH]
  | cons x l ih =>
    simp only [List.cons_append, valH, ih, List.length_cons, Nat.pow_succ, Nat.mul_add]
    rw [Nat.mul_comm (4294967296 ^ l.length) 4294967296, Nat.mul_assoc]; omega
theorem valH_lt {l : List Nat} (h : Halves l) : valH l < 4294967296 ^ l.length := by
  induction l with
  | nil => simp [valH]
  | cons x l ih =>
    have h1 := ih (fun y hy => h y (List.mem_cons_of_mem _ hy))
    have h2 := h x (List.mem_cons_self ..)
    simp only [valH, List.length_cons, Nat.pow_succ]
    have : valH l + 1 ≤ 4294967296 ^ l.length := h1
    have := Nat.mul_le_mul_left 4294967296 this
    rw [Nat.mul_comm (4294967296 ^ l.length)]
    omega
theorem valH_replicate (k : Nat) : valH (List.replicate k 0) = 0 := by
  induction k with
  | zero => rfl
  | succ k ih => rw [List.replicate_succ]; simp [valH, ih]
theorem valH_split (l : List Nat) (k : Nat) (h : k ≤ l.length) : valH l = valH (l.take k) + 4294967296 ^ k * valH (l.drop k) := by
  conv => lhs; rw [← List.take_append_drop k l]
  rw [valH_append, List.length_take, Nat.min_eq_left h]
theorem valH_take_succ (l : List Nat) (k : Nat) (h : k < l.length) : valH (l.take (k + 1)) = valH (l.take k) + 4294967296 ^ k * l.getD k 0 := by
  rw [List.take_succ_eq_append_getElem h, valH_append, List.length_take, Nat.min_eq_left (by omega)]
  simp [valH, List.getD, h]
theorem valH_set (l : List Nat) (k x : Nat) (h : k < l.length) : valH (l.set k x) + 4294967296 ^ k * l.getD k 0 = valH l + 4294967296 ^ k * x := by
  induction l generalizing k with
  | nil => simp at h
  | cons y l ih =>
    cases k with
    | zero => simp [valH]; omega
    | succ k =>
      have := ih k (by simpa using h)
      simp only [List.set_cons_succ, valH, Nat.pow_succ, List.getD_cons_succ]
      rw [Nat.mul_comm (4294967296 ^ k) 4294967296, Nat.mul_assoc, Nat.mul_assoc]
      omega
theorem valL_join (l : List Nat) : valL (joinH l) = valH l := by
  induction l using joinH.induct with
  | case1 => rfl
  | case2 x => simp [joinH, valL, valH]
  | case3 x y xs ih => simp only [joinH, valL, valH, ih]; omega
theorem joinH_limbs {l : List Nat} (h : Halves l) : Limbs (joinH l) := by
  induction l using joinH.induct with
  | case1 => exact Limbs.nil
  | case2 x =>
    have := h x (List.mem_cons_self ..)
    exact Limbs.cons (by omega) Limbs.nil
  | case3 x y xs ih =>
    have h1 := h x (List.mem_cons_self ..)
    have h2 := h y (List.mem_cons_of_mem _ (List.mem_cons_self ..))
    exact Limbs.cons (by omega) (ih fun z hz => h z (List.mem_cons_of_mem _ (List.mem_cons_of_mem _ hz)))
theorem joinH_length (l : List Nat) : (joinH l).length = (l.length + 1) / 2 := by
  induction l using joinH.induct with
  | case1 => rfl
  | case2 x => simp [joinH]
  | case3 x y xs ih => simp only [joinH, List.length_cons, ih]; omega
theorem joinH_take (l : List Nat) (k : Nat) : (joinH l).take k = joinH (l.take (2 * k)) := by
  induction l using joinH.induct generalizing k with
  | case1 => simp [joinH]
  | case2 x =>
    cases k with
    | zero => simp [joinH]
    | succ k => simp [joinH, show 2 * (k + 1) = 2 * k + 1 + 1 by omega]
  | case3 x y xs ih =>
    cases k with
    | zero => simp [joinH]
    | succ k => rw [show 2 * (k + 1) = 2 * k + 1 + 1 by omega]; simp [joinH, ih]
theorem joinH_get (l : List Nat) (k : Nat) (h : 2 * k < l.length) : (joinH l).getD k 0 = l.getD (2 * k) 0 + l.getD (2 * k + 1) 0 * 4294967296 := by
  induction l using joinH.induct generalizing k with
  | case1 => simp at h
  | case2 x =>
    obtain rfl : k = 0 := by simp at h; omega
    have e1 : ([x] : List Nat).getD (2 * 0 + 1) 0 = 0 := rfl
    have e2 : ([x] : List Nat).getD (2 * 0) 0 = x := rfl
    have e3 : (joinH [x]).getD 0 0 = x := rfl
    rw [e1, e2, e3, Nat.zero_mul, Nat.add_zero]
  | case3 x y xs ih =>
    cases k with
    | zero =>
      have e1 : (x :: y :: xs).getD (2 * 0 + 1) 0 = y := rfl
      have e2 : (x :: y :: xs).getD (2 * 0) 0 = x := rfl
      rw [e1, e2, joinH, List.getD_cons_zero]
    | succ k =>
      have := ih k (by simp at h; omega)
      have e0 : joinH (x :: y :: xs) = (x + y * 4294967296) :: joinH xs := by rw [joinH]
      rw [e0, show 2 * (k + 1) = 2 * k + 1 + 1 by omega, List.getD_cons_succ, List.getD_cons_succ, List.getD_cons_succ, List.getD_cons_succ, List.getD_cons_succ]
      exact this
end Go.Plumb
