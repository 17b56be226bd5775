/-
  Quotients limb by limb, roots by Newton's steps: plain laws, no program in sight.
-/
import Derived.Test.YtjfjkabmpiebpaaDoorNatM
set_option linter.unusedSimpArgs false
set_option linter.unusedVariables false
namespace Go.Plumb

theorem getD_drop (l : List Nat) (j k : Nat) : (l.drop j).getD k 0 = l.getD (j + k) 0 := by
  simp [List.getD, List.getElem?_drop]
theorem getD_take (l : List Nat) (j k : Nat) (h : k < j) : (l.take j).getD k 0 = l.getD k 0 := by
  simp [List.getD, h]
/-- The top limb bounds a number from below. -/
theorem valL_top (v : List Nat) (n : Nat) (h : n + 1 ≤ v.length) : 18446744073709551616 ^ n * v.getD n 0 ≤ valL v := by
  rw [valL_split v (n + 1) h, valL_take_succ v n (by omega)]
  omega
/-- The guess is never too small. -/
theorem guess_ge (w v : List Nat) (n W V : Nat) (hw : Limbs w) (hlen : w.length = n + 2) (hvl : v.length = n + 1) (hW : valL w = W) (hV : valL v = V)
    (ht : 0 < v.getD n 0) : W / V ≤ (w.getD (n + 1) 0 * 18446744073709551616 + w.getD n 0) / v.getD n 0 := by
  obtain ⟨t, hte⟩ : ∃ t, v.getD n 0 = t := ⟨_, rfl⟩
  obtain ⟨w1, hw1⟩ : ∃ t, w.getD (n + 1) 0 = t := ⟨_, rfl⟩
  obtain ⟨w0, hw0⟩ : ∃ t, w.getD n 0 = t := ⟨_, rfl⟩
  rw [hte] at ht
  rw [hte, hw1, hw0]
  have hVt := valL_top v n (by omega)
  rw [hV, hte] at hVt
  have h1 := valL_lt (hw.take n)
  rw [List.length_take, Nat.min_eq_left (by omega)] at h1
  have e1 : W = valL (w.take n) + 18446744073709551616 ^ n * (w1 * 18446744073709551616 + w0) := by
    have h2 := valL_take_succ w (n + 1) (by omega)
    rw [show n + 1 + 1 = w.length by omega, List.take_length, hW, valL_take_succ w n (by omega), hw1, hw0, Nat.pow_succ] at h2
    rw [h2, Nat.mul_add, ← Nat.mul_assoc, Nat.mul_right_comm]
    omega
  rw [Nat.le_div_iff_mul_le ht]
  have h3 : W / V * V ≤ W := Nat.div_mul_le_self _ _
  have h4 := Nat.mul_le_mul_left (W / V) hVt
  have h5 : 18446744073709551616 ^ n * (W / V * t) < 18446744073709551616 ^ n * (w1 * 18446744073709551616 + w0 + 1) := by
    have : W / V * (18446744073709551616 ^ n * t) = 18446744073709551616 ^ n * (W / V * t) := by
      rw [← Nat.mul_assoc, Nat.mul_comm (W / V), Nat.mul_assoc]
    rw [this] at h4
    rw [Nat.mul_add, Nat.mul_one]
    omega
  have := Nat.lt_of_mul_lt_mul_left h5
  omega
/-- What lies in a round of the division: its limbs, and nothing above them. -/
theorem div_round (u : List Nat) (j n V : Nat) (hu : Limbs u) (hjn : j + n + 1 ≤ u.length) (hV : V < 18446744073709551616 ^ n) (h : valL (u.drop (j + 1)) < V) :
    valL (u.drop (j + n + 1)) = 0 ∧ valL (u.drop j) = valL ((u.drop j).take (n + 1)) ∧ valL (u.drop j) < 18446744073709551616 * V := by
  have h1 := valL_split (u.drop (j + 1)) n (by simp; omega)
  rw [List.drop_drop, show j + 1 + n = j + n + 1 by omega] at h1
  have hz : valL (u.drop (j + n + 1)) = 0 := by
    apply Nat.eq_zero_of_not_pos
    intro h0
    have := Nat.mul_le_mul_left (18446744073709551616 ^ n) (show 1 ≤ valL (u.drop (j + n + 1)) from h0)
    omega
  refine ⟨hz, ?_, ?_⟩
  · have h2 := valL_split (u.drop j) (n + 1) (by simp; omega)
    rw [List.drop_drop, show j + (n + 1) = j + n + 1 by omega, hz, Nat.mul_zero, Nat.add_zero] at h2
    exact h2
  · rw [valL_drop u j (by omega)]
    have := hu.get j
    omega
/-- A list with a part written over. -/
def patch (u : List Nat) (j : Nat) (r : List Nat) : List Nat := u.take j ++ r ++ u.drop (j + r.length)
theorem patch_length (u : List Nat) (j : Nat) (r : List Nat) (h : j + r.length ≤ u.length) : (patch u j r).length = u.length := by simp [patch]; omega
theorem patch_limbs {u r : List Nat} (h : Limbs u) (h' : Limbs r) (j : Nat) : Limbs (patch u j r) := ((h.take j).append h').append (h.drop _)
theorem patch_value (u : List Nat) (j : Nat) (r : List Nat) (h : j + r.length ≤ u.length) : valL (patch u j r) + 18446744073709551616 ^ j * valL ((u.drop j).take r.length) = valL u + 18446744073709551616 ^ j * valL r := by
  have h1 := valL_split u j (by omega)
  have h2 := valL_split (u.drop j) r.length (by simp; omega)
  rw [List.drop_drop] at h2
  have h3 : valL (patch u j r) = valL (u.take j) + 18446744073709551616 ^ j * (valL r + 18446744073709551616 ^ r.length * valL (u.drop (j + r.length))) := by
    unfold patch
    rw [List.append_assoc, valL_append, valL_append, List.length_take, Nat.min_eq_left (by omega)]
  rw [h3, h1, h2, Nat.mul_add, Nat.mul_add]
  omega
theorem patch_drop (u : List Nat) (j : Nat) (r : List Nat) (h : j + r.length ≤ u.length) : valL ((patch u j r).drop j) = valL r + 18446744073709551616 ^ r.length * valL (u.drop (j + r.length)) := by
  unfold patch
  rw [List.append_assoc, List.drop_append_of_le_length (by simp; omega), List.drop_take, Nat.sub_self, List.take_zero, List.nil_append, valL_append]
/-- A list, noughts behind it to a length. -/
theorem valL_pad (r : List Nat) (k : Nat) : valL (r ++ List.replicate k 0) = valL r := by
  rw [valL_append, valL_replicate, Nat.mul_zero, Nat.add_zero]
theorem fillL_value (r : List Nat) (n : Nat) : valL (fillL r n) = valL r := valL_pad r _
theorem fillL_limbs {r : List Nat} (h : Limbs r) (n : Nat) : Limbs (fillL r n) := h.append (Limbs.replicate _)

theorem quot_unique (U V q r : Nat) (h : q * V + r = U) (hr : r < V) : q = U / V ∧ r = U % V := by
  subst h
  constructor
  · rw [Nat.add_comm, Nat.add_mul_div_right _ _ (by omega), Nat.div_eq_of_lt hr, Nat.zero_add]
  · rw [Nat.add_comm, Nat.add_mul_mod_self_right, Nat.mod_eq_of_lt hr]
theorem shifted_div (A B k : Nat) : (A * 2 ^ k) / (B * 2 ^ k) = A / B := Nat.mul_div_mul_right _ _ (Nat.two_pow_pos k)
theorem shifted_mod (A B k : Nat) : (A * 2 ^ k) % (B * 2 ^ k) / 2 ^ k = A % B := by
  rw [Nat.mul_mod_mul_right, Nat.mul_div_left _ (Nat.two_pow_pos k)]
/-- The greatest guess that fits is the quotient. -/
theorem guess_fits (W V g : Nat) (h1 : W / V ≤ g) (h2 : g * V ≤ W) (hV : 0 < V) : g = W / V := by
  have := (Nat.le_div_iff_mul_le hV).2 h2
  omega
theorem guess_less (W V g : Nat) (h1 : W / V ≤ g) (h2 : W < g * V) (hV : 0 < V) : 1 ≤ g ∧ W / V ≤ g - 1 := by
  have : W / V < g := (Nat.div_lt_iff_lt_mul hV).2 h2
  generalize W / V = q at *
  omega

/-! ### Roots -/
/-- A number's root, by counting. -/
def isqN : Nat → Nat
  | 0 => 0
  | n + 1 => if (isqN n + 1) * (isqN n + 1) ≤ n + 1 then isqN n + 1 else isqN n
theorem isqN_spec (n : Nat) : isqN n * isqN n ≤ n ∧ n < (isqN n + 1) * (isqN n + 1) := by
  induction n with
  | zero => decide
  | succ n ih =>
    unfold isqN
    split
    · rename_i h
      refine ⟨h, ?_⟩
      have : (isqN n + 1 + 1) * (isqN n + 1 + 1) = (isqN n + 1) * (isqN n + 1) + 2 * (isqN n + 1) + 1 := by
        rw [Nat.add_mul, Nat.mul_add]; omega
      omega
    · rename_i h
      omega
theorem sq_le {a b : Nat} (h : a * a < (b + 1) * (b + 1)) : a ≤ b := by
  apply Nat.le_of_not_lt
  intro hlt
  have := Nat.mul_le_mul (show b + 1 ≤ a from hlt) (show b + 1 ≤ a from hlt)
  omega
theorem isqN_unique (n s : Nat) (h1 : s * s ≤ n) (h2 : n < (s + 1) * (s + 1)) : isqN n = s := by
  have h := isqN_spec n
  exact Nat.le_antisymm (sq_le (by omega)) (sq_le (by omega))
/-- Newton's step stays at or above the root. -/
theorem newton_ge (A s x : Nat) (hx : 0 < x) (hs : s * s ≤ A) : s ≤ (x + A / x) / 2 := by
  rw [Nat.le_div_iff_mul_le (by decide)]
  by_cases h : s * 2 ≤ x
  · generalize A / x = q
    omega
  · obtain ⟨d, hd⟩ : ∃ d, s * 2 = x + d := ⟨s * 2 - x, by omega⟩
    have h1 : d ≤ A / x := by
      rw [Nat.le_div_iff_mul_le hx]
      -- d * x = (2 s - x) * x ≤ s * s
      refine Nat.le_trans ?_ hs
      rcases Nat.le_total x s with hxs | hxs
      · obtain ⟨c, rfl⟩ := Nat.exists_eq_add_of_le hxs
        have : d = x + c + c := by omega
        subst this
        have e1 : (x + c + c) * x = x * x + c * x + c * x := by rw [Nat.add_mul, Nat.add_mul]
        have e2 : (x + c) * (x + c) = x * x + c * x + (c * x + c * c) := by rw [Nat.mul_add, Nat.add_mul, Nat.add_mul, Nat.mul_comm x c]
        omega
      · obtain ⟨c, rfl⟩ := Nat.exists_eq_add_of_le hxs
        obtain ⟨f, hf⟩ : ∃ f, s = c + f := ⟨s - c, by omega⟩
        have : d = f := by omega
        subst this hf
        have e1 : d * (c + d + c) = c * d + d * d + c * d := by rw [Nat.mul_add, Nat.mul_add, Nat.mul_comm d c]
        have e2 : (c + d) * (c + d) = c * c + c * d + (c * d + d * d) := by rw [Nat.mul_add, Nat.add_mul, Nat.add_mul, Nat.mul_comm d c]
        omega
    generalize A / x = q at *
    omega
/-- Where Newton's step no longer lowers it, it is the root. -/
theorem newton_stop (A x : Nat) (hx : 0 < x) (hge : isqN A ≤ x) (h : x ≤ (x + A / x) / 2) : x = isqN A := by
  have h1 : x ≤ A / x := by omega
  have h2 : x * x ≤ A := (Nat.le_div_iff_mul_le hx).1 h1
  exact Nat.le_antisymm (sq_le (by have := isqN_spec A; omega)) hge
theorem newton_start (A n : Nat) (h : A < 2 ^ n) : isqN A ≤ 2 ^ ((n + 1) / 2) := by
  have h1 := (isqN_spec A).1
  apply sq_le
  have h2 : 2 ^ n ≤ 2 ^ ((n + 1) / 2) * 2 ^ ((n + 1) / 2) := by
    rw [← Nat.pow_add]; exact Nat.pow_le_pow_right (by decide) (by omega)
  have h3 : (2 ^ ((n + 1) / 2) + 1) * (2 ^ ((n + 1) / 2) + 1) = 2 ^ ((n + 1) / 2) * 2 ^ ((n + 1) / 2) + 2 * 2 ^ ((n + 1) / 2) + 1 := by
    rw [Nat.add_mul, Nat.mul_add]; omega
  omega
theorem isqN_pos (A : Nat) (h : A ≠ 0) : 0 < isqN A := by
  apply Nat.pos_of_ne_zero
  intro h0
  have := (isqN_spec A).2
  rw [h0] at this
  omega
end Go.Plumb
