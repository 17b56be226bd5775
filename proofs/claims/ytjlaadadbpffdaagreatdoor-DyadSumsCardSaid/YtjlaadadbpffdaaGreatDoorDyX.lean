/-
  Sums, and sums of products, of lists of small dyads: all partial sums may be.
-/
import Derived.Test.YtjlaadadbpffdaaGreatDoorPfT
import Derived.Test.YtjlaadadbpffdaaGreatDoorDyRing
set_option linter.unusedSimpArgs false
set_option linter.unusedVariables false
namespace Go.Plumb
/-- The partial sums. -/
noncomputable def sumT (f : Nat → Dy) : Nat → Dy
  | 0 => zeroD
  | i + 1 => nrm (addD (sumT f i) (f i))
theorem zero_fit {P : Int} {K : Nat} (hP : 0 ≤ P) : Fit P K zeroD := by
  refine ⟨by show -P ≤ (0 : Int); omega, ?_⟩
  rw [valP_zero (show zeroD.m = 0 from rfl)]
  exact Nat.pow_pos (by decide)
theorem sumT_fit {P : Int} {K N : Nat} {f : Nat → Dy} (hP : 0 ≤ P) (hK : P ≤ K) (hN : N ≤ 30) (hK2 : K ≤ 10000) (hf : ∀ i, i < N → Fit P K (f i) ∧ mayE (f i).e) :
    ∀ i, i ≤ N → Fit P (K + i) (sumT f i) ∧ mayE (sumT f i).e := by
  intro i
  induction i with
  | zero => intro _; exact ⟨zero_fit hP, by show mayE 0; decide⟩
  | succ i ih =>
    intro hi
    obtain ⟨h1, h2⟩ := ih (by omega)
    obtain ⟨g1, g2⟩ := hf i (by omega)
    have h := sumO_ok h1 (g1.more (Nat.le_add_right K i)) h2 g2 hP (by omega) (by omega)
    exact ⟨(h1.add (g1.more (Nat.le_add_right K i))).nrm hP, h.2.2⟩
theorem sumT_step {P : Int} {K N : Nat} {f : Nat → Dy} (hP : 0 ≤ P) (hK : P ≤ K) (hN : N ≤ 30) (hK2 : K ≤ 10000) (hf : ∀ i, i < N → Fit P K (f i) ∧ mayE (f i).e) (i : Nat) (hi : i < N) :
    addO (sumT f i) (f i) = (sumT f (i + 1), 0) ∧ (farD (nrm (sumT f i)) (nrm (f i)) ∨ nearD (nrm (sumT f i)) (nrm (f i))) := by
  obtain ⟨h1, h2⟩ := sumT_fit hP hK hN hK2 hf i (by omega)
  obtain ⟨g1, g2⟩ := hf i hi
  have h := sumO_ok h1 (g1.more (Nat.le_add_right K i)) h2 g2 hP (by omega) (by omega)
  exact ⟨h.1, h.2.1⟩
theorem sumT_len {P : Int} {K N : Nat} {f : Nat → Dy} (hP : 0 ≤ P) (hK : P ≤ K) (hN : N ≤ 30) (hK2 : K ≤ 10000) (hf : ∀ i, i < N → Fit P K (f i) ∧ mayE (f i).e) (i : Nat) (hi : i ≤ N) : (limbs (sumT f i).m).length ≤ 400 := by
  have := (sumT_fit hP hK hN hK2 hf i hi).1.len
  omega
/-- Products of small numbers. -/
theorem prod_fit {x y : Dy} {K : Nat} (hK : K = 4256) (hx : Fit 2000 K x) (hy : Fit 2000 K y) (mx : mayE x.e) (my : mayE y.e) :
    mulO x y = (nrm (mulD x y), 0) ∧ Fit 4000 (K + K) (nrm (mulD x y)) ∧ mayE (nrm (mulD x y)).e := by
  have h := mulO_ok hx hy mx my (by decide) (by decide) (by omega) (by omega) (by omega) (by omega)
  exact ⟨h.1, (hx.mul hy).nrm (by decide), h.2⟩
end Go.Plumb
