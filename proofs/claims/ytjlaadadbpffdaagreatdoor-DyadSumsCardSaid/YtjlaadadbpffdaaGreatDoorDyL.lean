/-
  Dyads, in plain words: a sign, a size, a place; the normal one of a number; values at a common place; sums and products.
-/
import Derived.Test.YtjlaadadbpffdaaGreatDoorNnN
set_option linter.unusedSimpArgs false
set_option linter.unusedVariables false
namespace Go.Plumb

/-- A number: below 0?, its size, its place. -/
structure Dy where
  s : Bool
  m : Nat
  e : Int

noncomputable def oddN (m : Nat) : Nat := m / 2 ^ zerosN m
def zeroD : Dy := ⟨false, 0, 0⟩
/-- The normal one. -/
noncomputable def nrm (d : Dy) : Dy := if d.m = 0 then zeroD else ⟨d.s, oddN d.m, d.e + zerosN d.m⟩
def sg (s : Bool) : Int := if s then -1 else 1
/-- The number times 2^P, where that is whole. -/
def valP (P : Int) (d : Dy) : Int := sg d.s * ((d.m * 2 ^ (d.e + P).toNat : Nat) : Int)

theorem Dy.ext' {x y : Dy} (h1 : x.s = y.s) (h2 : x.m = y.m) (h3 : x.e = y.e) : x = y := by
  cases x; cases y; simp at h1 h2 h3; simp [h1, h2, h3]
theorem oddN_zero : oddN 0 = 0 := by simp [oddN]
theorem oddN_odd (m : Nat) (h : m ≠ 0) : oddN m % 2 = 1 := (zerosN_spec m h).2
theorem oddN_mul (m : Nat) : oddN m * 2 ^ zerosN m = m := by
  by_cases h : m = 0
  · subst h; simp [oddN]
  · unfold oddN; exact Nat.div_mul_cancel (Nat.dvd_of_mod_eq_zero (zerosN_spec m h).1)
theorem zerosN_odd_mul (q k : Nat) (hq : q % 2 = 1) : zerosN (q * 2 ^ k) = k :=
  zerosN_eq _ _ (Nat.mul_mod_left _ _) (by rw [Nat.mul_div_cancel _ (Nat.two_pow_pos k)]; exact hq)
theorem oddN_odd_mul (q k : Nat) (hq : q % 2 = 1) : oddN (q * 2 ^ k) = q := by
  unfold oddN; rw [zerosN_odd_mul q k hq, Nat.mul_div_cancel _ (Nat.two_pow_pos k)]
theorem oddN_le (m : Nat) : oddN m ≤ m := Nat.div_le_self _ _
theorem nrm_zero {d : Dy} (h : d.m = 0) : nrm d = zeroD := by unfold nrm; rw [if_pos h]
theorem nrm_pos {d : Dy} (h : d.m ≠ 0) : nrm d = ⟨d.s, oddN d.m, d.e + zerosN d.m⟩ := by unfold nrm; rw [if_neg h]
theorem nrm_m (d : Dy) : (nrm d).m = oddN d.m := by
  by_cases h : d.m = 0
  · rw [nrm_zero h, h, oddN_zero]; rfl
  · rw [nrm_pos h]
theorem oddN_ne {m : Nat} (h : m ≠ 0) : oddN m ≠ 0 := by
  have := oddN_odd m h
  omega
theorem nrm_m_zero (d : Dy) : (nrm d).m = 0 ↔ d.m = 0 := by
  rw [nrm_m]
  constructor
  · intro h
    by_cases h0 : d.m = 0
    · exact h0
    · exact absurd h (oddN_ne h0)
  · intro h; rw [h, oddN_zero]
theorem nrm_le (d : Dy) : (nrm d).m ≤ d.m := by rw [nrm_m]; exact oddN_le _
theorem nrm_s {d : Dy} (h : d.m ≠ 0) : (nrm d).s = d.s := by rw [nrm_pos h]
theorem nrm_e {d : Dy} (h : d.m ≠ 0) : (nrm d).e = d.e + zerosN d.m := by rw [nrm_pos h]
theorem nrm_nrm (d : Dy) : nrm (nrm d) = nrm d := by
  by_cases h : d.m = 0
  · rw [nrm_zero h, nrm_zero (d := zeroD) rfl]
  · have h1 := oddN_odd _ h
    rw [nrm_pos h, nrm_pos (by exact oddN_ne h)]
    have e1 := zerosN_odd_mul (oddN d.m) 0 h1
    have e2 := oddN_odd_mul (oddN d.m) 0 h1
    rw [Nat.pow_zero, Nat.mul_one] at e1 e2
    simp only [e1, e2]
    simp
theorem valP_zero {P : Int} {d : Dy} (h : d.m = 0) : valP P d = 0 := by unfold valP; rw [h]; simp
theorem sg_mul (s : Bool) (n : Int) : sg s * n = if s then -n else n := by unfold sg; split <;> simp
theorem valP_eq_zero {P : Int} {d : Dy} (h : valP P d = 0) : d.m = 0 := by
  unfold valP at h
  rw [sg_mul] at h
  have h2 : ((d.m * 2 ^ (d.e + P).toNat : Nat) : Int) = 0 := by split at h <;> omega
  have h3 : d.m * 2 ^ (d.e + P).toNat = 0 := by omega
  rcases Nat.mul_eq_zero.1 h3 with h4 | h4
  · exact h4
  · exact absurd h4 (Nat.ne_of_gt (Nat.two_pow_pos _))
/-- What is the same number has the same normal one. -/
theorem nrm_eq {P : Int} {x y : Dy} (hx : -P ≤ x.e) (hy : -P ≤ y.e) (h : valP P x = valP P y) : nrm x = nrm y := by
  by_cases h0 : x.m = 0
  · rw [valP_zero h0] at h
    rw [nrm_zero h0, nrm_zero (valP_eq_zero h.symm)]
  · have h1 : y.m ≠ 0 := by
      intro hy0
      rw [valP_zero hy0] at h
      exact h0 (valP_eq_zero h)
    unfold valP at h
    have p1 : 0 < x.m * 2 ^ (x.e + P).toNat := Nat.mul_pos (by omega) (Nat.two_pow_pos _)
    have p2 : 0 < y.m * 2 ^ (y.e + P).toNat := Nat.mul_pos (by omega) (Nat.two_pow_pos _)
    have key : x.s = y.s ∧ x.m * 2 ^ (x.e + P).toNat = y.m * 2 ^ (y.e + P).toNat := by
      rw [sg_mul, sg_mul] at h
      revert h
      generalize x.m * 2 ^ (x.e + P).toNat = A at *
      generalize y.m * 2 ^ (y.e + P).toNat = B at *
      cases x.s <;> cases y.s <;> simp <;> omega
    obtain ⟨hs, hm⟩ := key
    rw [nrm_pos h0, nrm_pos h1]
    have ox := oddN_odd _ h0
    have oy := oddN_odd _ h1
    have ex := oddN_mul x.m
    have ey := oddN_mul y.m
    rw [← ex, ← ey, Nat.mul_assoc, Nat.mul_assoc, ← Nat.pow_add, ← Nat.pow_add] at hm
    have z := congrArg zerosN hm
    rw [zerosN_odd_mul _ _ ox, zerosN_odd_mul _ _ oy] at z
    have o := congrArg oddN hm
    rw [oddN_odd_mul _ _ ox, oddN_odd_mul _ _ oy] at o
    refine Dy.ext' hs o ?_
    show x.e + (zerosN x.m : Int) = y.e + (zerosN y.m : Int)
    omega
theorem nrm_ge {P : Int} {d : Dy} (hd : -P ≤ d.e) (hP : 0 ≤ P) : -P ≤ (nrm d).e := by
  by_cases h : d.m = 0
  · rw [nrm_zero h]; show -P ≤ 0; omega
  · rw [nrm_e h]; omega
theorem valP_nrm {P : Int} {d : Dy} (hd : -P ≤ d.e) : valP P (nrm d) = valP P d := by
  by_cases h : d.m = 0
  · rw [nrm_zero h, valP_zero h, valP_zero rfl]
  · rw [nrm_pos h]
    unfold valP
    show sg d.s * ((oddN d.m * 2 ^ (d.e + (zerosN d.m : Int) + P).toNat : Nat) : Int) = _
    have e : (d.e + (zerosN d.m : Int) + P).toNat = zerosN d.m + (d.e + P).toNat := by omega
    rw [e, Nat.pow_add, ← Nat.mul_assoc, oddN_mul]
/-- Of a whole number at a place. -/
def ofZ (P : Int) (V : Int) : Dy := ⟨decide (V < 0), V.natAbs, -P⟩
theorem valP_ofZ (P V : Int) : valP P (ofZ P V) = V := by
  unfold valP ofZ
  have e : (-P + P).toNat = 0 := by omega
  simp only [e, Nat.pow_zero, Nat.mul_one, sg_mul]
  by_cases h : V < 0 <;> simp [h] <;> omega
theorem nrm_ofZ {P V : Int} {d : Dy} (hd : -P ≤ d.e) (h : valP P d = V) : nrm d = nrm (ofZ P V) :=
  nrm_eq hd (by unfold ofZ; exact Int.le_refl _) (by rw [h, valP_ofZ])

/-! ### Sums, products -/
/-- The place to which two are brought. -/
def lowE (x y : Dy) : Int := if x.m = 0 then y.e else if y.m = 0 then x.e else min x.e y.e
def atE (x : Dy) (e : Int) : Nat := x.m * 2 ^ (x.e - e).toNat
def addD (x y : Dy) : Dy :=
  if x.s = y.s then ⟨x.s, atE x (lowE x y) + atE y (lowE x y), lowE x y⟩
  else if atE x (lowE x y) < atE y (lowE x y) then ⟨y.s, atE y (lowE x y) - atE x (lowE x y), lowE x y⟩
  else ⟨x.s, atE x (lowE x y) - atE y (lowE x y), lowE x y⟩
def negD (x : Dy) : Dy := ⟨!x.s, x.m, x.e⟩
def mulD (x y : Dy) : Dy := ⟨x.s != y.s, x.m * y.m, x.e + y.e⟩
theorem addD_e (x y : Dy) : (addD x y).e = lowE x y := by unfold addD; split; · rfl
                                                          split <;> rfl
theorem lowE_ge {P : Int} {x y : Dy} (hx : -P ≤ x.e) (hy : -P ≤ y.e) : -P ≤ lowE x y := by
  unfold lowE; split; · exact hy
  split; · exact hx
  omega
theorem atE_val {P e : Int} {x : Dy} (h0 : -P ≤ e) (h1 : x.m = 0 ∨ e ≤ x.e) : x.m * 2 ^ (x.e + P).toNat = atE x e * 2 ^ (e + P).toNat := by
  rcases h1 with h | h
  · unfold atE; rw [h]; simp
  · unfold atE
    rw [Nat.mul_assoc, ← Nat.pow_add]
    congr 2; omega
theorem lowE_x (x y : Dy) : x.m = 0 ∨ lowE x y ≤ x.e := by
  unfold lowE; split; · exact .inl (by assumption)
  split; · exact .inr (Int.le_refl _)
  exact .inr (by omega)
theorem lowE_y (x y : Dy) : y.m = 0 ∨ lowE x y ≤ y.e := by
  unfold lowE; split; · exact .inr (Int.le_refl _)
  split; · exact .inl (by assumption)
  exact .inr (by omega)
theorem valP_add {P : Int} {x y : Dy} (hx : -P ≤ x.e) (hy : -P ≤ y.e) : valP P (addD x y) = valP P x + valP P y := by
  have h0 := lowE_ge hx hy
  unfold valP
  rw [addD_e, atE_val h0 (lowE_x x y), atE_val h0 (lowE_y x y)]
  unfold addD
  generalize atE x (lowE x y) = A
  generalize atE y (lowE x y) = B
  generalize (lowE x y + P).toNat = k
  simp only [sg_mul, Int.natCast_mul]
  generalize ((2 ^ k : Nat) : Int) = K
  split
  · rename_i h
    rw [h]
    show (if y.s = true then -(((A + B : Nat) : Int) * K) else ((A + B : Nat) : Int) * K) = _
    rw [Int.natCast_add, Int.add_mul]
    split <;> omega
  · rename_i h
    split
    · rename_i h1
      show (if y.s = true then -(((B - A : Nat) : Int) * K) else ((B - A : Nat) : Int) * K) = _
      rw [Int.natCast_sub (by omega), Int.sub_mul]
      revert h
      cases x.s <;> cases y.s <;> simp <;> omega
    · show (if x.s = true then -(((A - B : Nat) : Int) * K) else ((A - B : Nat) : Int) * K) = _
      rw [Int.natCast_sub (by omega), Int.sub_mul]
      revert h
      cases x.s <;> cases y.s <;> simp <;> omega
theorem valP_neg (P : Int) (x : Dy) : valP P (negD x) = - valP P x := by
  unfold valP negD
  simp only [sg_mul]
  cases x.s <;> simp
theorem valP_mul {P Q : Int} {x y : Dy} (hx : -P ≤ x.e) (hy : -Q ≤ y.e) : valP (P + Q) (mulD x y) = valP P x * valP Q y := by
  unfold valP mulD
  have e : (x.e + y.e + (P + Q)).toNat = (x.e + P).toNat + (y.e + Q).toNat := by omega
  simp only [e, Nat.pow_add]
  have e2 : x.m * y.m * (2 ^ (x.e + P).toNat * 2 ^ (y.e + Q).toNat) = (x.m * 2 ^ (x.e + P).toNat) * (y.m * 2 ^ (y.e + Q).toNat) := by
    rw [Nat.mul_assoc, Nat.mul_assoc]; congr 1
    rw [← Nat.mul_assoc, ← Nat.mul_assoc, Nat.mul_comm y.m]
  rw [e2]
  generalize x.m * 2 ^ (x.e + P).toNat = A
  generalize y.m * 2 ^ (y.e + Q).toNat = B
  simp only [sg_mul, Int.natCast_mul]
  cases x.s <;> cases y.s <;> simp [Int.mul_neg, Int.neg_mul]
/-- At a lower place. -/
theorem valP_low {P Q : Int} {x : Dy} (hx : -P ≤ x.e) (hQ : P ≤ Q) : valP Q x = valP P x * ((2 ^ (Q - P).toNat : Nat) : Int) := by
  unfold valP
  have e : (x.e + Q).toNat = (x.e + P).toNat + (Q - P).toNat := by omega
  rw [e, Nat.pow_add, ← Nat.mul_assoc, Int.natCast_mul _ (2 ^ (Q - P).toNat), ← Int.mul_assoc]
/-! ### Answers -/
def mayE (e : Int) : Prop := -262144 ≤ e ∧ e ≤ 262144
instance (e : Int) : Decidable (mayE e) := by unfold mayE; infer_instance
noncomputable def doneO (d : Dy) : Dy × Int := if mayE (nrm d).e then (nrm d, 0) else (zeroD, 3)
def farD (x y : Dy) : Prop := x.m ≠ 0 ∧ y.m ≠ 0 ∧ 262144 < max x.e y.e - min x.e y.e
instance (x y : Dy) : Decidable (farD x y) := by unfold farD; infer_instance
noncomputable def addO (x y : Dy) : Dy × Int :=
  if mayE x.e ∧ mayE y.e then (if farD (nrm x) (nrm y) then (zeroD, 3) else doneO (addD (nrm x) (nrm y))) else (zeroD, 2)
noncomputable def mulO (x y : Dy) : Dy × Int := if mayE x.e ∧ mayE y.e then doneO (mulD (nrm x) (nrm y)) else (zeroD, 2)
noncomputable def normO (x : Dy) : Dy × Int := if mayE x.e then doneO x else (zeroD, 2)
noncomputable def shiftO (x : Dy) (k : Int) : Dy × Int :=
  if mayE x.e then (if x.m = 0 then (zeroD, 0) else doneO ⟨(nrm x).s, (nrm x).m, (nrm x).e + max (-1048576) (min 1048576 k)⟩) else (zeroD, 2)
def sideD (x : Dy) : Int := if x.m = 0 then 0 else if x.s then -1 else 1
noncomputable def signO (x : Dy) : Int := if mayE x.e then sideD (nrm x) else 0
noncomputable def cmpD (x y : Dy) : Int :=
  if sideD x = sideD y then (if x.s then -cmpN (atE x (lowE x y)) (atE y (lowE x y)) else cmpN (atE x (lowE x y)) (atE y (lowE x y))) else if sideD x < sideD y then -1 else 1
noncomputable def cmpO (x y : Dy) : Int × Int :=
  if mayE x.e ∧ mayE y.e then (if farD (nrm x) (nrm y) then (0, 3) else (cmpD (nrm x) (nrm y), 0)) else (0, 2)
end Go.Plumb
