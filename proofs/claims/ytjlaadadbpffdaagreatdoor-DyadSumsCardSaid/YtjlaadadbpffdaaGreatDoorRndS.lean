/-
  Rounding of long numbers: what lies below 54 bits is told by whether something lies there; rounding of dyads; the machine's sums, products, quotients, roots as rounding of exact ones.
-/
import Derived.Test.YtjlaadadbpffdaaGreatDoorBnF
import Derived.Test.YtjlaadadbpffdaaGreatDoorDyL
set_option linter.unusedSimpArgs false
set_option linter.unusedVariables false
namespace Go.Plumb

theorem rne_sticky (N k j : Nat) (h0 : N % 2 ^ k ≠ 0) : rne N (k + (j + 1)) = rne (2 * (N / 2 ^ k) + 1) (j + 1 + 1) := by
  have hk := Nat.two_pow_pos k
  have hj := Nat.two_pow_pos j
  obtain ⟨m, hm⟩ : ∃ m, N / 2 ^ k = m := ⟨_, rfl⟩
  obtain ⟨r, hr⟩ : ∃ r, N % 2 ^ k = r := ⟨_, rfl⟩
  have hrl : r < 2 ^ k := by rw [← hr]; exact Nat.mod_lt _ hk
  have d1 : N / 2 ^ (k + (j + 1)) = m / 2 ^ (j + 1) := by rw [Nat.pow_add, ← Nat.div_div_eq_div_mul, hm]
  have d2 : N % 2 ^ (k + (j + 1)) = r + 2 ^ k * (m % 2 ^ (j + 1)) := by rw [Nat.pow_add, Nat.mod_mul, hm, hr]
  have d3 : (2 * m + 1) / 2 ^ (j + 1 + 1) = m / 2 ^ (j + 1) := by
    rw [Nat.pow_succ 2 (j + 1), Nat.mul_comm (2 ^ (j + 1)) 2, ← Nat.div_div_eq_div_mul]
    congr 1; omega
  have d4 : (2 * m + 1) % 2 ^ (j + 1 + 1) = 2 * (m % 2 ^ (j + 1)) + 1 := by
    rw [Nat.pow_succ 2 (j + 1), Nat.mul_comm (2 ^ (j + 1)) 2, Nat.mod_mul]
    have a1 : (2 * m + 1) % 2 = 1 := by omega
    have a2 : (2 * m + 1) / 2 = m := by omega
    rw [a1, a2]; omega
  unfold rne
  rw [hm, d1, d2, d3, d4]
  generalize m / 2 ^ (j + 1) = q
  generalize m % 2 ^ (j + 1) = t
  have p1 : 2 ^ (k + (j + 1)) = 2 * (2 ^ k * 2 ^ j) := by rw [Nat.pow_add, Nat.pow_succ]; rw [← Nat.mul_assoc, Nat.mul_comm]
  have p2 : 2 ^ (j + 1 + 1) = 2 * (2 * 2 ^ j) := by rw [Nat.pow_succ, Nat.pow_succ]; omega
  rw [p1, p2]
  rw [hr] at h0
  clear hr hm d1 d2 d3 d4 p1 p2
  generalize 2 ^ k = K at *
  generalize 2 ^ j = J at *
  have hc : (2 * (K * J) < 2 * (r + K * t)) ↔ J ≤ t := by
    constructor
    · intro h
      apply Nat.le_of_not_lt
      intro hlt
      have : K * (t + 1) ≤ K * J := Nat.mul_le_mul_left _ hlt
      rw [Nat.mul_add] at this
      omega
    · intro h
      have : K * J ≤ K * t := Nat.mul_le_mul_left _ h
      omega
  have hn : ¬ 2 * (K * J) = 2 * (r + K * t) := by
    intro h
    have h1 : K * J = r + K * t := by omega
    have h2 : (K * J) % K = (r + K * t) % K := by rw [h1]
    rw [Nat.mul_mod_right, Nat.add_mul_mod_self_left, Nat.mod_eq_of_lt hrl] at h2
    omega
  by_cases h : J ≤ t
  · rw [if_pos (.inl (hc.2 h)), if_pos (.inl (by omega))]
  · rw [if_neg, if_neg]
    · rintro (h1 | ⟨h1, _⟩) <;> omega
    · rintro (h1 | ⟨h1, _⟩)
      · exact h (hc.1 h1)
      · exact hn h1

/-- What lies below 54 bits matters only by being there. -/
theorem roundN_sticky (neg : Bool) (N : Nat) (e : Int) (k : Nat) (hm : 9007199254740992 ≤ N / 2 ^ k) (h0 : N % 2 ^ k ≠ 0) : roundN neg N e = roundN neg (2 * (N / 2 ^ k) + 1) (e + k - 1) := by
  have hN : N ≠ 0 := by intro h; rw [h] at h0; simp at h0
  obtain ⟨m, hme⟩ : ∃ m, N / 2 ^ k = m := ⟨_, rfl⟩
  rw [hme] at hm ⊢
  have hl : lenN N = lenN m + k := by
    have h1 := lenN_ge m (by omega)
    have h2 := lt_lenN m
    have h3 : 0 < lenN m := by unfold lenN; rw [if_neg (by omega)]; omega
    have hk := Nat.two_pow_pos k
    have hd := Nat.div_add_mod N (2 ^ k)
    have hml := Nat.mod_lt N hk
    rw [hme] at hd
    have e1 : lenN m + k = (lenN m - 1 + k) + 1 := by omega
    rw [e1]
    apply lenN_eq
    · rw [Nat.pow_add]
      have := Nat.mul_le_mul_right (2 ^ k) h1
      rw [Nat.mul_comm m] at this
      omega
    · have e2 : lenN m - 1 + k + 1 = lenN m + k := by omega
      rw [e2, Nat.pow_add]
      have : (m + 1) * 2 ^ k ≤ 2 ^ lenN m * 2 ^ k := Nat.mul_le_mul_right _ h2
      rw [Nat.add_mul, Nat.mul_comm m] at this
      omega
  have hl53 : 54 ≤ lenN m := by
    apply Nat.le_of_not_lt
    intro h
    have h2 := lt_lenN m
    have : 2 ^ lenN m ≤ 2 ^ 53 := Nat.pow_le_pow_right (by decide) (by omega)
    simp only [Nat.reducePow] at this
    omega
  have ho := lenN_odd m
  obtain ⟨j, hj⟩ : ∃ j : Nat, dropN N e = ((k + (j + 1) : Nat) : Int) := ⟨(dropN N e - k - 1).toNat, by unfold dropN; omega⟩
  have hj2 : dropN (2 * m + 1) (e + k - 1) = ((j + 1 + 1 : Nat) : Int) := by
    unfold dropN at hj ⊢
    omega
  unfold roundN
  rw [if_neg hN, if_neg (by omega), hj, hj2]
  unfold keptN
  rw [if_neg (by omega), if_neg (by omega)]
  have t1 : ((k + (j + 1) : Nat) : Int).toNat = k + (j + 1) := by omega
  have t2 : ((j + 1 + 1 : Nat) : Int).toNat = j + 1 + 1 := by omega
  rw [t1, t2, rne_sticky N k j h0, hme]
  congr 4
  have : e + ((k + (j + 1) : Nat) : Int) + 1074 = e + (k : Int) - 1 + ((j + 1 + 1 : Nat) : Int) + 1074 := by omega
  rw [this]

/-- A number cut at k, with the word of whether something fell: the rounding of the whole. -/
theorem roundW_cut (neg : Bool) (N : Nat) (e : Int) (k : Nat) (hm : 9007199254740992 ≤ N / 2 ^ k ∨ k = 0) : roundW neg ((N / 2 ^ k : Nat) : Int) (e + k) (decide (N % 2 ^ k ≠ 0)) = (roundN neg N e : Int) := by
  unfold roundW
  rw [Int.toNat_natCast]
  by_cases h0 : N % 2 ^ k = 0
  · have : decide (N % 2 ^ k ≠ 0) = false := by simp [h0]
    rw [this, if_neg (by simp)]
    have := roundN_scale neg (N / 2 ^ k) (e + k) k
    rw [Nat.div_mul_cancel (Nat.dvd_of_mod_eq_zero h0)] at this
    rw [← this]
    congr 2; omega
  · have hd : decide (N % 2 ^ k ≠ 0) = true := by simp [h0]
    rw [hd, if_pos rfl]
    rcases hm with hm | hm
    · rw [roundN_sticky neg N e k hm h0]
    · subst hm; exact absurd (by rw [Nat.pow_zero]; exact Nat.mod_one N) h0

/-- Of a number told by its cut and by whether there is more. -/
theorem roundN_more (neg : Bool) (q k : Nat) (e : Int) (s : Bool) (hm : 9007199254740992 ≤ q / 2 ^ k) :
    roundN neg (2 * q + s.toNat) (e - 1) = roundN neg (2 * (q / 2 ^ k) + (s || decide (q % 2 ^ k ≠ 0)).toNat) (e + k - 1) := by
  have hk := Nat.two_pow_pos k
  have d : (2 * q + s.toNat) / 2 ^ (k + 1) = q / 2 ^ k := by
    rw [Nat.pow_succ, Nat.mul_comm (2 ^ k) 2, ← Nat.div_div_eq_div_mul]
    congr 1; cases s <;> simp <;> omega
  have r : (2 * q + s.toNat) % 2 ^ (k + 1) = 2 * (q % 2 ^ k) + s.toNat := by
    rw [Nat.pow_succ, Nat.mul_comm (2 ^ k) 2, Nat.mod_mul]
    have a1 : (2 * q + s.toNat) % 2 = s.toNat := by cases s <;> simp <;> omega
    have a2 : (2 * q + s.toNat) / 2 = q := by cases s <;> simp <;> omega
    rw [a1, a2]; omega
  have key := roundW_cut neg (2 * q + s.toNat) (e - 1) (k + 1) (.inl (by rw [d]; exact hm))
  rw [d, r] at key
  unfold roundW at key
  rw [Int.toNat_natCast] at key
  by_cases h : 2 * (q % 2 ^ k) + s.toNat = 0
  · have h1 : decide (2 * (q % 2 ^ k) + s.toNat ≠ 0) = false := by simp [h]
    rw [h1, if_neg (by simp)] at key
    have hs : s = false := by cases s; · rfl
                              · simp at h
    subst hs
    have h2 : decide (q % 2 ^ k ≠ 0) = false := by simp at h ⊢; omega
    rw [h2]
    have := Int.ofNat.inj key
    rw [← this]
    have sc := roundN_scale neg (q / 2 ^ k) (e - 1 + ((k + 1 : Nat) : Int)) 1
    rw [← sc]
    simp only [Bool.or_self, Bool.toNat_false, Nat.add_zero, Nat.pow_one]
    rw [Nat.mul_comm 2]
    congr 1; omega
  · have h1 : decide (2 * (q % 2 ^ k) + s.toNat ≠ 0) = true := decide_eq_true h
    rw [h1, if_pos rfl] at key
    have h2 : (s || decide (q % 2 ^ k ≠ 0)) = true := by
      cases s
      · simp at h ⊢; omega
      · rfl
    rw [h2]
    have := Int.ofNat.inj key
    rw [← this]
    congr 1; omega

/-! ### Dyads, rounded -/
def rndD (d : Dy) : Nat := roundN d.s d.m d.e
theorem rndD_nrm (d : Dy) (h : d.m ≠ 0) : rndD (nrm d) = rndD d := by
  rw [nrm_pos h]
  unfold rndD
  have := roundN_scale d.s (oddN d.m) (d.e + zerosN d.m) (zerosN d.m)
  rw [oddN_mul] at this
  rw [← this]
  congr 1; omega
theorem rndD_zero (d : Dy) (h : d.m = 0) : rndD d = wordN d.s 0 := by unfold rndD roundN; rw [if_pos h]
theorem rndD_eq {x y : Dy} (h : nrm x = nrm y) (h0 : x.m ≠ 0) : rndD x = rndD y := by
  have h1 : y.m ≠ 0 := by intro hy; rw [nrm_zero hy] at h; exact h0 ((nrm_m_zero x).1 (by rw [h]; rfl))
  rw [← rndD_nrm x h0, ← rndD_nrm y h1, h]
end Go.Plumb
