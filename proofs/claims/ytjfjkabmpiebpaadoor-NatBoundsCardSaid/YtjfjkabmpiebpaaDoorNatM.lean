/-
  What nat's loops reckon, limb by limb: plain laws, no program in sight.
-/
import Derived.Test.YtjfjkabmpiebpaaDoorNatL
set_option linter.unusedSimpArgs false
set_option linter.unusedVariables false
namespace Go.Plumb

/-- The limbs of a list's number are the list, cut. -/
theorem limbs_take {l : List Nat} (h : Limbs l) : l.take (limbs (valL l)).length = limbs (valL l) := by
  have key : ∀ k, k ≤ l.length → (∀ j, k ≤ j → l.getD j 0 = 0) → ∃ m, m ≤ l.length ∧ l.take m = limbs (valL l) := by
    intro k
    induction k with
    | zero => intro _ hz; exact ⟨0, Nat.zero_le _, take_limbs h 0 (Nat.zero_le _) (fun j _ => hz j (Nat.zero_le _)) (.inl rfl)⟩
    | succ k ih =>
      intro hk hz
      by_cases h0 : l.getD k 0 = 0
      · exact ih (by omega) fun j hj => by
          by_cases hjk : j = k
          · rw [hjk]; exact h0
          · exact hz j (by omega)
      · exact ⟨k + 1, hk, take_limbs h (k + 1) hk (fun j hj => hz j hj) (.inr (by simpa using h0))⟩
  obtain ⟨m, hm, e⟩ := key l.length (Nat.le_refl _) (fun j hj => by simp [List.getD, List.getElem?_eq_none hj])
  rw [← e, List.length_take, Nat.min_eq_left hm]
theorem limbs_length_le {l : List Nat} (h : Limbs l) : (limbs (valL l)).length ≤ l.length := by
  rw [← limbs_take h]; simp; omega
theorem valL_take_any (l : List Nat) (k : Nat) : valL (l.take (k + 1)) = valL (l.take k) + 18446744073709551616 ^ k * l.getD k 0 := by
  by_cases h : k < l.length
  · exact valL_take_succ l k h
  · have e : l.getD k 0 = 0 := by simp [List.getD, List.getElem?_eq_none (Nat.le_of_not_lt h)]
    rw [e, List.take_of_length_le (by omega), List.take_of_length_le (by omega)]; omega
theorem valL_one (x : Nat) : valL [x] = x := by simp [valL]
theorem adds_step (la lb os : List Nat) (i cy x y : Nat) (hos : os.length = i) (hv : valL os + 18446744073709551616 ^ i * cy = valL (la.take i) + valL (lb.take i)) (hx : la.getD i 0 = x) (hy : lb.getD i 0 = y) :
    valL (os ++ [(x + y + cy) % 18446744073709551616]) + 18446744073709551616 ^ (i + 1) * ((x + y + cy) / 18446744073709551616) = valL (la.take (i + 1)) + valL (lb.take (i + 1)) := by
  rw [valL_append, hos, valL_take_any la i, valL_take_any lb i, hx, hy]
  have e : valL [(x + y + cy) % 18446744073709551616] = (x + y + cy) % 18446744073709551616 := by simp [valL]
  rw [e, Nat.pow_succ, Nat.mul_assoc]
  have e2 : (x + y + cy) % 18446744073709551616 + 18446744073709551616 * ((x + y + cy) / 18446744073709551616) = x + y + cy := by omega
  have e3 := congrArg (18446744073709551616 ^ i * ·) e2
  simp only [Nat.mul_add] at e3 ⊢
  omega
/-- Noughts, the first ones overwritten. -/
def fillL (os : List Nat) (n : Nat) : List Nat := os ++ List.replicate (n - os.length) 0
theorem fillL_length (os : List Nat) (n : Nat) (h : os.length ≤ n) : (fillL os n).length = n := by simp [fillL]; omega
theorem fillL_set (os : List Nat) (n x : Nat) (h : os.length < n) : (fillL os n).set os.length x = fillL (os ++ [x]) n := by
  unfold fillL
  rw [List.set_append_right _ _ (Nat.le_refl _), Nat.sub_self]
  obtain ⟨k, hk⟩ : ∃ k, n - os.length = k + 1 := ⟨n - os.length - 1, by omega⟩
  rw [hk, List.replicate_succ]
  have e : n - (os ++ [x]).length = k := by simp; omega
  rw [e]; simp
theorem fillL_at (os : List Nat) (n : Nat) (h : os.length < n) : (fillL os n)[os.length]? = some 0 := by
  unfold fillL
  rw [List.getElem?_append_right (Nat.le_refl _), Nat.sub_self]
  obtain ⟨k, hk⟩ : ∃ k, n - os.length = k + 1 := ⟨n - os.length - 1, by omega⟩
  rw [hk]; rfl
theorem fillL_nil (n : Nat) : fillL [] n = List.replicate n 0 := by simp [fillL]
theorem fillL_full (os : List Nat) : fillL os os.length = os := by simp [fillL]
/-- The borrow. -/
def borrowN (x y c : Nat) : Nat := if x < y + c then 1 else 0
theorem borrowN_le (x y c : Nat) : borrowN x y c ≤ 1 := by unfold borrowN; split <;> omega
def subN (x y c : Nat) : Nat := (x + 18446744073709551616 - y - c) % 18446744073709551616
theorem subs_step (la lb os : List Nat) (i bo x y : Nat) (hos : os.length = i) (hbo : bo ≤ 1) (hxl : x < 18446744073709551616) (hyl : y < 18446744073709551616) (hv : valL os + valL (lb.take i) = valL (la.take i) + 18446744073709551616 ^ i * bo) (hx : la.getD i 0 = x) (hy : lb.getD i 0 = y) :
    valL (os ++ [subN x y bo]) + valL (lb.take (i + 1)) = valL (la.take (i + 1)) + 18446744073709551616 ^ (i + 1) * borrowN x y bo := by
  rw [valL_append, hos, valL_take_any la i, valL_take_any lb i, hx, hy, valL_one, Nat.pow_succ, Nat.mul_assoc]
  have e2 : subN x y bo + y + bo = x + 18446744073709551616 * borrowN x y bo := by unfold subN borrowN; split <;> omega
  have e3 := congrArg (18446744073709551616 ^ i * ·) e2
  simp only [Nat.mul_add] at e3 ⊢
  omega
/-- Behind the last limb no borrow is left, and the difference stands there. -/
theorem subs_end (la lb os : List Nat) (bo : Nat) (hos : os.length = la.length) (hl : Limbs os) (hle : valL lb ≤ valL la) (hlen : lb.length ≤ la.length) (hv : valL os + valL (lb.take la.length) = valL (la.take la.length) + 18446744073709551616 ^ la.length * bo) :
    valL os = valL la - valL lb := by
  rw [List.take_length, List.take_of_length_le hlen] at hv
  have h1 := valL_lt hl
  rw [hos] at h1
  have : bo = 0 := by
    apply Nat.eq_zero_of_not_pos
    intro h0
    have := Nat.mul_le_mul_left (18446744073709551616 ^ la.length) (show 1 ≤ bo from h0)
    omega
  subst this
  omega
/-- One limb of a product, with what was there and what is carried. -/
theorem mul_limb (P cy o h l l2 c h2 o2 c2 : Nat) (hP : P ≤ 340282366920938463426481119284349108225) (hcy : cy < 18446744073709551616) (ho : o < 18446744073709551616)
    (e1 : h = P / 18446744073709551616) (e2 : l = P % 18446744073709551616) (e3 : l2 = (l + cy) % 18446744073709551616) (e4 : c = (l + cy) / 18446744073709551616) (e5 : h2 = h + c)
    (e6 : o2 = (o + l2) % 18446744073709551616) (e7 : c2 = (o + l2) / 18446744073709551616) : o2 + 18446744073709551616 * (h2 + c2) = P + cy + o ∧ h2 + c2 < 18446744073709551616 := by omega
theorem muls_step (la lo os : List Nat) (n i cy x o o2 cy2 : Nat) (hos : os.length = i) (hv : valL os + 18446744073709551616 ^ i * cy = valL (lo.take i) + valL (la.take i) * n) (hx : la.getD i 0 = x) (hy : lo.getD i 0 = o)
    (h : o2 + 18446744073709551616 * cy2 = x * n + cy + o) : valL (os ++ [o2]) + 18446744073709551616 ^ (i + 1) * cy2 = valL (lo.take (i + 1)) + valL (la.take (i + 1)) * n := by
  rw [valL_append, hos, valL_take_any la i, valL_take_any lo i, hx, hy, valL_one, Nat.pow_succ, Nat.mul_assoc, Nat.add_mul, Nat.mul_assoc _ x n]
  have e3 := congrArg (18446744073709551616 ^ i * ·) h
  simp only [Nat.mul_add] at e3 ⊢
  omega
/-- A list, its first ones overwritten. -/
def overL (os lo : List Nat) : List Nat := os ++ lo.drop os.length
theorem overL_length (os lo : List Nat) (h : os.length ≤ lo.length) : (overL os lo).length = lo.length := by simp [overL]; omega
theorem overL_nil (lo : List Nat) : overL [] lo = lo := by simp [overL]
theorem overL_full (os lo : List Nat) (h : os.length = lo.length) : overL os lo = os := by simp [overL, h]
theorem overL_at (os lo : List Nat) : (overL os lo)[os.length]? = lo[os.length]? := by
  unfold overL
  rw [List.getElem?_append_right (Nat.le_refl _), Nat.sub_self, List.getElem?_drop]; rfl
theorem overL_set (os lo : List Nat) (x : Nat) (h : os.length < lo.length) : (overL os lo).set os.length x = overL (os ++ [x]) lo := by
  unfold overL
  rw [List.set_append_right _ _ (Nat.le_refl _), Nat.sub_self, List.drop_eq_getElem_cons h, List.set_cons_zero]
  simp
theorem overL_limbs {os lo : List Nat} (h : Limbs os) (h' : Limbs lo) : Limbs (overL os lo) := h.append (h'.drop _)

/-! ### Shifts -/
theorem pow_split (r : Nat) (h : r < 64) : (2 : Nat) ^ r * 2 ^ (64 - r) = 18446744073709551616 := by
  rw [← Nat.pow_add, show r + (64 - r) = 64 by omega]
theorem shl_hi (x r : Nat) (h : r < 64) : x / 2 ^ (64 - r) = x * 2 ^ r / 18446744073709551616 := by
  rw [← pow_split r h, Nat.mul_comm x, Nat.mul_div_mul_left _ _ (Nat.two_pow_pos r)]
/-- One round of a shift to the left: limb p takes the lower part of x, limb p + 1 the upper one. -/
theorem shl_step (o : List Nat) (p r x o' h : Nat) (hp : p + 1 < o.length) (hz : o.getD (p + 1) 0 = 0) (ho : o' = o.getD p 0 + x * 2 ^ r % 18446744073709551616) (hh : h = x * 2 ^ r / 18446744073709551616) :
    valL ((o.set p o').set (p + 1) h) = valL o + 18446744073709551616 ^ p * (x * 2 ^ r) := by
  have h1 := valL_set o p o' (by omega)
  have h2 := valL_set (o.set p o') (p + 1) h (by simpa using hp)
  have h3 : (o.set p o').getD (p + 1) 0 = 0 := by
    refine Eq.trans ?_ hz; unfold List.getD; rw [List.getElem?_set_ne (by omega)]
  rw [h3, Nat.mul_zero, Nat.add_zero] at h2
  rw [h2, Nat.pow_succ, Nat.mul_assoc]
  have e2 : o' + 18446744073709551616 * h = o.getD p 0 + x * 2 ^ r := by rw [ho, hh]; omega
  have e3 := congrArg (18446744073709551616 ^ p * ·) e2
  simp only [Nat.mul_add] at e3
  omega
/-- A list shifted right by fewer than 64 bits. -/
def shrL (r : Nat) : List Nat → List Nat
  | [] => []
  | x :: l => (x / 2 ^ r + l.headD 0 * 2 ^ (64 - r) % 18446744073709551616) :: shrL r l
theorem shrL_length (r : Nat) (l : List Nat) : (shrL r l).length = l.length := by
  induction l with
  | nil => rfl
  | cons x l ih => simp [shrL, ih]
theorem shr_low (x r v : Nat) (hr : r < 64) : (x + 18446744073709551616 * v) / 2 ^ r = x / 2 ^ r + v * 2 ^ (64 - r) := by
  rw [← pow_split r hr, Nat.mul_assoc, Nat.add_mul_div_left _ _ (Nat.two_pow_pos r), Nat.mul_comm v]
theorem valL_shrL (r : Nat) (hr : r < 64) (l : List Nat) : valL (shrL r l) = valL l / 2 ^ r := by
  induction l with
  | nil => simp [shrL, valL]
  | cons x l ih =>
    simp only [shrL, valL]
    rw [ih, shr_low x r _ hr]
    cases l with
    | nil => simp [valL]
    | cons y t =>
      simp only [List.headD_cons, valL]
      rw [shr_low y r _ hr]
      have e : (y + 18446744073709551616 * valL t) * 2 ^ (64 - r) = y * 2 ^ (64 - r) + 18446744073709551616 * (valL t * 2 ^ (64 - r)) := by
        rw [Nat.add_mul, Nat.mul_assoc]
      have e2 : y / 2 ^ r = y * 2 ^ (64 - r) / 18446744073709551616 := by
        rw [← pow_split r hr, Nat.mul_comm y, Nat.mul_comm (2 ^ r), Nat.mul_div_mul_left _ _ (Nat.two_pow_pos _)]
      rw [e, e2]
      omega
theorem shrL_get (r : Nat) (l : List Nat) (i : Nat) (h : i < l.length) : (shrL r l).getD i 0 = l.getD i 0 / 2 ^ r + l.getD (i + 1) 0 * 2 ^ (64 - r) % 18446744073709551616 := by
  induction l generalizing i with
  | nil => simp at h
  | cons x l ih =>
    cases i with
    | zero => cases l <;> simp [shrL]
    | succ i =>
      simp only [shrL, List.getD_cons_succ]
      exact ih i (by simpa using h)
theorem shr_limb (x y r : Nat) (hr : r < 64) (hx : x < 18446744073709551616) : x / 2 ^ r + y * 2 ^ (64 - r) % 18446744073709551616 < 18446744073709551616 := by
  have hp := pow_split r hr
  have h1 : x / 2 ^ r < 2 ^ (64 - r) := by
    rw [Nat.div_lt_iff_lt_mul (Nat.two_pow_pos r), Nat.mul_comm, hp]; exact hx
  have h2 : y * 2 ^ (64 - r) % 18446744073709551616 = y % 2 ^ r * 2 ^ (64 - r) := by
    rw [← hp, Nat.mul_mod_mul_right]
  have h3 : y % 2 ^ r + 1 ≤ 2 ^ r := Nat.mod_lt _ (Nat.two_pow_pos r)
  have h4 := Nat.mul_le_mul_right (2 ^ (64 - r)) h3
  rw [hp, Nat.add_mul] at h4
  omega
theorem shrL_limbs (r : Nat) (hr : r < 64) {l : List Nat} (h : Limbs l) : Limbs (shrL r l) := by
  induction l with
  | nil => exact Limbs.nil
  | cons x l ih => exact Limbs.cons (shr_limb _ _ _ hr h.head) (ih h.tail)
theorem valL_div_pow (l : List Nat) (n : Nat) (hl : Limbs l) (h : n ≤ l.length) : valL l / 18446744073709551616 ^ n = valL (l.drop n) := by
  have h1 := valL_lt (hl.take n)
  rw [List.length_take, Nat.min_eq_left h] at h1
  rw [valL_split l n h, Nat.add_comm, Nat.mul_add_div (Nat.pow_pos (by decide)), Nat.div_eq_of_lt h1, Nat.add_zero]
theorem pow64 (k : Nat) : 18446744073709551616 ^ (k / 64) * 2 ^ (k % 64) = 2 ^ k := by
  have : (18446744073709551616 : Nat) = 2 ^ 64 := by decide
  rw [this, ← Nat.pow_mul, ← Nat.pow_add, Nat.div_add_mod]
theorem shr_value (l : List Nat) (k : Nat) (hl : Limbs l) (h : k / 64 ≤ l.length) : valL (shrL (k % 64) (l.drop (k / 64))) = valL l / 2 ^ k := by
  rw [valL_shrL _ (Nat.mod_lt _ (by decide)), ← valL_div_pow l _ hl h, Nat.div_div_eq_div_mul, pow64]
theorem shr_beyond (l : List Nat) (k : Nat) (hl : Limbs l) (h : l.length ≤ k / 64) : valL l / 2 ^ k = 0 := by
  apply Nat.div_eq_of_lt
  rw [← pow64 k]
  have h1 := valL_lt hl
  have h2 := Nat.pow_le_pow_right (show 0 < 18446744073709551616 by decide) h
  have h3 := Nat.mul_le_mul_left (18446744073709551616 ^ (k / 64)) (Nat.two_pow_pos (k % 64))
  omega
/-- What a shift to the right loses. -/
theorem shr_lost (l : List Nat) (k : Nat) (hl : Limbs l) (h : k / 64 < l.length) : valL l % 2 ^ k = 0 ↔ (∀ j, j < k / 64 → l.getD j 0 = 0) ∧ l.getD (k / 64) 0 % 2 ^ (k % 64) = 0 := by
  obtain ⟨n, hn⟩ : ∃ n, k / 64 = n := ⟨_, rfl⟩
  obtain ⟨r, hr⟩ : ∃ r, k % 64 = r := ⟨_, rfl⟩
  have hr64 : r < 64 := by rw [← hr]; exact Nat.mod_lt _ (by decide)
  have hk := pow64 k
  rw [hn, hr] at hk
  rw [hn] at h ⊢
  rw [hr, ← hk]
  have h1 := valL_lt (hl.take n)
  rw [List.length_take, Nat.min_eq_left (by omega)] at h1
  have key : valL l = valL (l.take n) + 18446744073709551616 ^ n * (l.getD n 0 + 18446744073709551616 * valL (l.drop (n + 1))) := by
    rw [← valL_drop l n h]; exact valL_split l n (by omega)
  have zeros : valL (l.take n) = 0 ↔ ∀ j, j < n → l.getD j 0 = 0 := by
    clear key h1 hk hn
    induction n with
    | zero => simp [valL]
    | succ n ih =>
      rw [valL_take_any]
      constructor
      · intro h0 j hj
        have hp : 0 < 18446744073709551616 ^ n := Nat.pow_pos (by decide)
        have h1 : valL (l.take n) = 0 := by omega
        have h2 : 18446744073709551616 ^ n * l.getD n 0 = 0 := by omega
        have h3 : l.getD n 0 = 0 := by
          rcases Nat.mul_eq_zero.1 h2 with h | h
          · omega
          · exact h
        by_cases hjn : j = n
        · rw [hjn]; exact h3
        · exact (ih (by omega)).1 h1 j (by omega)
      · intro h0
        rw [(ih (by omega)).2 fun j hj => h0 j (by omega), h0 n (by omega)]; simp
  rw [← zeros, key, Nat.mod_mul, Nat.add_mul_mod_self_left, Nat.mod_eq_of_lt h1, Nat.add_mul_div_left _ _ (Nat.pow_pos (by decide)), Nat.div_eq_of_lt h1, Nat.zero_add]
  have e : (l.getD n 0 + 18446744073709551616 * valL (l.drop (n + 1))) % 2 ^ r = l.getD n 0 % 2 ^ r := by
    rw [← pow_split r hr64, Nat.mul_assoc, Nat.add_mul_mod_self_left]
  rw [e]
  have hp : 0 < 18446744073709551616 ^ n := Nat.pow_pos (by decide)
  constructor
  · intro h0
    refine ⟨by omega, ?_⟩
    have h2 : 18446744073709551616 ^ n * (l.getD n 0 % 2 ^ r) = 0 := by omega
    rcases Nat.mul_eq_zero.1 h2 with h | h
    · omega
    · exact h
  · rintro ⟨a, b⟩
    rw [a, b]; simp
end Go.Plumb
