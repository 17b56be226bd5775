/-
  Signs and comparisons as those of whole numbers at a common place; the identities that DyadRings states.
-/
import Derived.Test.YtjlaadadbpffdaaGreatDoorPfT
set_option linter.unusedSimpArgs false
set_option linter.unusedVariables false
namespace Go.Plumb

def sgnZ (z : Int) : Int := if z = 0 then 0 else if z < 0 then -1 else 1
theorem side_val {P : Int} {d : Dy} : sideD d = sgnZ (valP P d) := by
  unfold sideD sgnZ
  by_cases h : d.m = 0
  · rw [if_pos h, valP_zero h, if_pos rfl]
  · rw [if_neg h]
    have hp : 0 < d.m * 2 ^ (d.e + P).toNat := Nat.mul_pos (by omega) (Nat.two_pow_pos _)
    unfold valP
    rw [sg_mul]
    generalize d.m * 2 ^ (d.e + P).toNat = z at *
    cases d.s <;> simp <;> omega
theorem cmp_val {P : Int} {x y : Dy} (hx : -P ≤ x.e) (hy : -P ≤ y.e) : cmpD x y = sgnZ (valP P x - valP P y) := by
  have h0 := lowE_ge hx hy
  have vx := atE_val h0 (lowE_x x y)
  have vy := atE_val h0 (lowE_y x y)
  have hk := Nat.two_pow_pos (lowE x y + P).toNat
  have zx : x.m = 0 ↔ atE x (lowE x y) = 0 := by
    unfold atE
    constructor
    · intro h; rw [h, Nat.zero_mul]
    · intro h
      rcases Nat.mul_eq_zero.1 h with h | h
      · exact h
      · exact absurd h (Nat.ne_of_gt (Nat.two_pow_pos _))
  have zy : y.m = 0 ↔ atE y (lowE x y) = 0 := by
    unfold atE
    constructor
    · intro h; rw [h, Nat.zero_mul]
    · intro h
      rcases Nat.mul_eq_zero.1 h with h | h
      · exact h
      · exact absurd h (Nat.ne_of_gt (Nat.two_pow_pos _))
  unfold cmpD sideD valP
  rw [vx, vy]
  simp only [zx, zy]
  generalize atE x (lowE x y) = A
  generalize atE y (lowE x y) = B
  generalize 2 ^ (lowE x y + P).toNat = K at hk
  have e1 : (A < B ↔ A * K < B * K) := by
    constructor
    · exact fun h => (Nat.mul_lt_mul_right hk).2 h
    · exact fun h => (Nat.mul_lt_mul_right hk).1 h
  have e2 : (B < A ↔ B * K < A * K) := by
    constructor
    · exact fun h => (Nat.mul_lt_mul_right hk).2 h
    · exact fun h => (Nat.mul_lt_mul_right hk).1 h
  have e3 : (A = 0 ↔ A * K = 0) := by
    constructor
    · intro h; rw [h, Nat.zero_mul]
    · intro h
      rcases Nat.mul_eq_zero.1 h with h | h
      · exact h
      · omega
  have e4 : (B = 0 ↔ B * K = 0) := by
    constructor
    · intro h; rw [h, Nat.zero_mul]
    · intro h
      rcases Nat.mul_eq_zero.1 h with h | h
      · exact h
      · omega
  unfold cmpN sgnZ
  simp only [sg_mul, e1, e2, e3, e4]
  generalize A * K = a
  generalize B * K = b
  cases x.s <;> cases y.s <;> simp only [if_true, if_false, Bool.false_eq_true] <;> (repeat' split) <;> omega

theorem Fit.raw {s : Bool} {l : List Nat} {e : Int} {K : Nat} (hl : Limbs l) (h4 : l.length ≤ 4) (h0 : -2000 ≤ e) (h1 : e ≤ 2000) (hK : K = 4256) : Fit 2000 K ⟨s, valL l, e⟩ := by
  refine ⟨h0, ?_⟩
  obtain ⟨b, hb⟩ : ∃ b, b = 256 := ⟨_, rfl⟩
  refine val_lt (b := b) (E := 4000) ?_ (by show (e + 2000).toNat ≤ 4000; omega) (by omega)
  have h2 := valL_lt hl
  have h3 : 18446744073709551616 ^ l.length ≤ 2 ^ b := by rw [powB64]; exact Nat.pow_le_pow_right (by decide) (by omega)
  exact Nat.lt_of_lt_of_le h2 h3

section
variable {P : Int} {K : Nat} {a b c : Dy} (ha : Fit P K a) (hb : Fit P K b) (hc : Fit P K c) (hP : 0 ≤ P)
include ha hb
theorem ring_comm : nrm (addD a b) = nrm (addD b a) :=
  nrm_eq (P := P) (ha.add hb).1 (hb.add ha).1 (by rw [valP_add ha.1 hb.1, valP_add hb.1 ha.1, Int.add_comm])
include hP
theorem ring_back : nrm (addD (nrm (addD a b)) (negD b)) = nrm a := by
  have hs := (ha.add hb).nrm hP
  refine nrm_eq (P := P) (hs.add (hb.neg.more (Nat.le_succ _))).1 ha.1 ?_
  rw [valP_add hs.1 hb.neg.1, valP_neg, valP_nrm (ha.add hb).1, valP_add ha.1 hb.1]
  omega
theorem ring_sign : sideD (nrm (addD a (negD b))) = cmpD (nrm a) (nrm b) := by
  rw [side_val (P := P), cmp_val (ha.nrm hP).1 (hb.nrm hP).1, valP_nrm (ha.add hb.neg).1, valP_add ha.1 hb.neg.1, valP_neg, valP_nrm ha.1, valP_nrm hb.1]
  congr 1
theorem ring_square : nrm (mulD (nrm (addD a b)) (nrm (addD a (negD b)))) = nrm (addD (nrm (mulD a a)) (negD (nrm (mulD b b)))) := by
  have hs := (ha.add hb).nrm hP
  have hd := (ha.add hb.neg).nrm hP
  have h1 := (ha.mul ha).nrm (by omega)
  have h2 := (hb.mul hb).nrm (by omega)
  refine nrm_eq (P := P + P) (hs.mul hd).1 (h1.add h2.neg).1 ?_
  rw [valP_mul hs.1 hd.1, valP_add h1.1 h2.neg.1, valP_neg, valP_nrm (ha.add hb).1, valP_nrm (ha.add hb.neg).1, valP_nrm (ha.mul ha).1, valP_nrm (hb.mul hb).1, valP_add ha.1 hb.1, valP_add ha.1 hb.neg.1, valP_neg, valP_mul ha.1 ha.1, valP_mul hb.1 hb.1]
  generalize valP P a = x
  generalize valP P b = y
  rw [Int.add_mul, Int.mul_add, Int.mul_add, Int.mul_neg, Int.mul_neg, Int.mul_comm y x]
  omega
include hc
theorem ring_spread : nrm (mulD (nrm (addD a b)) c) = nrm (addD (nrm (mulD a c)) (nrm (mulD c b))) := by
  have hs := (ha.add hb).nrm hP
  have h1 := (ha.mul hc).nrm (by omega)
  have h2 := (hc.mul hb).nrm (by omega)
  refine nrm_eq (P := P + P) (hs.mul hc).1 (h1.add h2).1 ?_
  rw [valP_mul hs.1 hc.1, valP_add h1.1 h2.1, valP_nrm (ha.add hb).1, valP_nrm (ha.mul hc).1, valP_nrm (hc.mul hb).1, valP_add ha.1 hb.1, valP_mul ha.1 hc.1, valP_mul hc.1 hb.1, Int.add_mul, Int.mul_comm (valP P c)]
theorem ring_assoc : nrm (addD (nrm (addD a b)) c) = nrm (addD a (nrm (addD b c))) := by
  have hs := (ha.add hb).nrm hP
  have hq := (hb.add hc).nrm hP
  refine nrm_eq (P := P) (hs.add (hc.more (Nat.le_succ _))).1 ((ha.more (Nat.le_succ _)).add hq).1 ?_
  rw [valP_add hs.1 hc.1, valP_add ha.1 hq.1, valP_nrm (ha.add hb).1, valP_nrm (hb.add hc).1, valP_add ha.1 hb.1, valP_add hb.1 hc.1]
  omega
end
end Go.Plumb
