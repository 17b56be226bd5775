/-
  What the operations of package soft answer, as plain functions on words; they are the machine's.
-/
import Derived.Test.YtjlaadadbpffdaaGreatDoorMachM
set_option linter.unusedSimpArgs false
set_option linter.unusedVariables false
namespace Go.Plumb

/-- What a word's float is: 0 a zero, 1 another number, 2 an infinity, 3 a NaN. -/
def clsI (x : Nat) : Int := if classI x = 5 then 3 else if classI x = 4 then 2 else if classI x = 1 then 0 else 1
def nanN : Nat := 9221120237041090560
def infN : Nat := 9218868437227405312
/-- A size with a sign. -/
noncomputable def sgnW (z : Nat) (neg : Bool) : Nat := if neg then (negI (z : Int)).toNat else z
noncomputable def addW (x y : Nat) : Nat :=
  if clsI x = 3 ∨ clsI y = 3 ∨ (clsI x = 2 ∧ clsI y = 2 ∧ negW x ≠ negW y) then nanN
  else if clsI x = 2 then x else if clsI y = 2 then y
  else if clsI x = 0 ∧ clsI y = 0 then wordN (negW x && negW y) 0
  else rndD (nrm (addD (nrm (dyW x)) (nrm (dyW y))))
/-- The table of the products that are none of two numbers. -/
def prodT (a b : Int) : Option Nat :=
  if a = 0 ∧ b = 0 then some 0 else if a = 0 ∧ b = 1 then some 0 else if a = 1 ∧ b = 0 then some 0 else if a = 0 ∧ b = 2 then some nanN
  else if a = 2 ∧ b = 0 then some nanN else if a = 1 ∧ b = 2 then some infN else if a = 2 ∧ b = 1 then some infN else if a = 2 ∧ b = 2 then some infN else none
def quoT (a b : Int) : Option Nat :=
  if a = 0 ∧ b = 0 then some nanN else if a = 0 ∧ b = 1 then some 0 else if a = 1 ∧ b = 0 then some infN else if a = 0 ∧ b = 2 then some 0
  else if a = 2 ∧ b = 0 then some infN else if a = 1 ∧ b = 2 then some 0 else if a = 2 ∧ b = 1 then some infN else if a = 2 ∧ b = 2 then some nanN else none
/-- Told by a table, or by what is done to two numbers. -/
noncomputable def toldW (T : Int → Int → Option Nat) (x y d : Nat) : Nat :=
  if clsI x = 3 ∨ clsI y = 3 then nanN else match T (clsI x) (clsI y) with
    | some z => sgnW z (negW x != negW y)
    | none => d
noncomputable def mulW (x y : Nat) : Nat := toldW prodT x y (rndD (nrm (mulD (nrm (dyW x)) (nrm (dyW y)))))
noncomputable def divW (x y : Nat) : Nat := toldW quoT x y (quoD (nrm (dyW x)) (nrm (dyW y)))
noncomputable def sqrtW (x : Nat) : Nat :=
  if clsI x = 0 ∨ clsI x = 3 then x else if negW x then nanN else if clsI x = 2 then x else rootD (nrm (dyW x))
noncomputable def fmaW (x y z : Nat) : Nat :=
  if clsI x = 1 ∧ clsI y = 1 ∧ 1 < clsI z then z
  else if clsI x ≠ 1 ∨ clsI y ≠ 1 then addW (toldW prodT x y nanN) z
  else rndD (nrm (addD (nrm (mulD (nrm (dyW x)) (nrm (dyW y)))) (nrm (dyW z))))

theorem dyW_zero_iff (x : Nat) : (dyW x).m = 0 ↔ classI x = 1 ∨ 4 ≤ classI x := by
  have h : (dyW x).m = (pMan (x : Int)).toNat := rfl
  rw [h]
  have h2 := pMan_ge (x : Int)
  unfold pMan at h2 ⊢
  unfold classI at h2 ⊢
  (repeat' split) <;> omega
theorem cls0 {x : Nat} (h : clsI x = 0) : classI x ≤ 3 ∧ (dyW x).m = 0 := by
  unfold clsI at h
  have := classI_cases (x : Int)
  rw [dyW_zero_iff]
  (repeat' split at h) <;> omega
theorem cls1 {x : Nat} (h : clsI x = 1) : classI x ≤ 3 ∧ (dyW x).m ≠ 0 := by
  unfold clsI at h
  have := classI_cases (x : Int)
  rw [Ne, dyW_zero_iff]
  (repeat' split at h) <;> omega
theorem cls2 {x : Nat} (h : clsI x = 2) : classI x = 4 := by
  unfold clsI at h
  have := classI_cases (x : Int)
  (repeat' split at h) <;> omega
theorem cls3 {x : Nat} (h : clsI x = 3) : classI x = 5 := by
  unfold clsI at h
  have := classI_cases (x : Int)
  (repeat' split at h) <;> omega
theorem cls_cases (x : Nat) : clsI x = 0 ∨ clsI x = 1 ∨ clsI x = 2 ∨ clsI x = 3 := by
  unfold clsI
  (repeat' split) <;> simp
theorem nanN_class : classI (nanN : Nat) = 5 := by decide
/-- What the machine answers: no NaN: just this word; a NaN, where this is one. -/
def Mach (m : Option Nat) (r : Nat) : Prop := m = some r ∨ (m = none ∧ classI (r : Int) = 5)

theorem wordN_sgn0 (s : Bool) : wordN s 0 = sgnW 0 s := by cases s <;> decide
theorem wordN_sgnI (s : Bool) : wordN s 9218868437227405312 = sgnW infN s := by cases s <;> decide
theorem sgnW_nan (s : Bool) : sgnW nanN s = nanN := by cases s <;> decide
section
variable {x y : Nat} (h1 : x < 18446744073709551616) (h2 : y < 18446744073709551616)
include h1 h2
theorem mach_add : Mach (Ieee.double.add x y) (addW x y) := by
  unfold addW
  by_cases hn : clsI x = 3 ∨ clsI y = 3 ∨ (clsI x = 2 ∧ clsI y = 2 ∧ negW x ≠ negW y)
  · rw [if_pos hn]
    refine .inr ⟨add_nan x y ?_ h1 h2, nanN_class⟩
    rcases hn with h | h | ⟨h, h', hs⟩
    · exact .inl (cls3 h)
    · exact .inr (.inl (cls3 h))
    · exact .inr (.inr ⟨cls2 h, cls2 h', hs⟩)
  · rw [if_neg hn]
    left
    have a1 : clsI x ≠ 3 := fun h => hn (.inl h)
    have a2 : clsI y ≠ 3 := fun h => hn (.inr (.inl h))
    by_cases hx : clsI x = 2
    · rw [if_pos hx]
      apply add_inf_l x y (cls2 hx) _ h1 h2
      rcases cls_cases y with h | h | h | h
      · exact .inl (cls0 h).1
      · exact .inl (cls1 h).1
      · right
        refine ⟨cls2 h, Classical.byContradiction fun hs => hn (.inr (.inr ⟨hx, h, hs⟩))⟩
      · exact absurd h a2
    · rw [if_neg hx]
      have hxf : classI x ≤ 3 := by
        rcases cls_cases x with h | h | h | h
        · exact (cls0 h).1
        · exact (cls1 h).1
        · exact absurd h hx
        · exact absurd h a1
      by_cases hy : clsI y = 2
      · rw [if_pos hy]
        exact add_inf_r x y (cls2 hy) hxf h1 h2
      · rw [if_neg hy]
        have hyf : classI y ≤ 3 := by
          rcases cls_cases y with h | h | h | h
          · exact (cls0 h).1
          · exact (cls1 h).1
          · exact absurd h hy
          · exact absurd h a2
        rw [add_fin x y hxf hyf h1 h2]
        have e : (clsI x = 0 ∧ clsI y = 0) ↔ ((dyW x).m = 0 ∧ (dyW y).m = 0) := by
          constructor
          · exact fun ⟨a, b⟩ => ⟨(cls0 a).2, (cls0 b).2⟩
          · rintro ⟨a, b⟩
            constructor
            · rcases cls_cases x with h | h | h | h
              · exact h
              · exact absurd a (cls1 h).2
              · exact absurd h hx
              · exact absurd h a1
            · rcases cls_cases y with h | h | h | h
              · exact h
              · exact absurd b (cls1 h).2
              · exact absurd h hy
              · exact absurd h a2
        simp only [e]
theorem mach_mul : Mach (Ieee.double.mul x y) (mulW x y) := by
  unfold mulW toldW
  have hx := cls_cases x
  have hy := cls_cases y
  by_cases hn : clsI x = 3 ∨ clsI y = 3
  · rw [if_pos hn]
    refine .inr ⟨mul_nan x y ?_ h1 h2, nanN_class⟩
    rcases hn with h | h
    · exact .inl (cls3 h)
    · exact .inr (.inl (cls3 h))
  · rw [if_neg hn]
    have a1 : clsI x ≠ 3 := fun h => hn (.inl h)
    have a2 : clsI y ≠ 3 := fun h => hn (.inr h)
    have hs : (negW x != negW y) = (negW x ^^ negW y) := rfl
    rcases hx with hx | hx | hx | hx <;> rcases hy with hy | hy | hy | hy <;> first | exact absurd hx a1 | exact absurd hy a2 | skip
    · rw [show prodT (clsI x) (clsI y) = some 0 by rw [hx, hy]; rfl]
      left
      rw [mul_fin x y (cls0 hx).1 (cls0 hy).1 h1 h2, if_pos (.inl (cls0 hx).2), wordN_sgn0, hs]
    · rw [show prodT (clsI x) (clsI y) = some 0 by rw [hx, hy]; rfl]
      left
      rw [mul_fin x y (cls0 hx).1 (cls1 hy).1 h1 h2, if_pos (.inl (cls0 hx).2), wordN_sgn0, hs]
    · rw [show prodT (clsI x) (clsI y) = some nanN by rw [hx, hy]; rfl]
      right
      refine ⟨mul_nan x y (.inr (.inr (.inr ⟨cls2 hy, (cls0 hx).1, (cls0 hx).2⟩))) h1 h2, ?_⟩
      show classI ((sgnW nanN _ : Nat) : Int) = 5
      rw [sgnW_nan]; exact nanN_class
    · rw [show prodT (clsI x) (clsI y) = some 0 by rw [hx, hy]; rfl]
      left
      rw [mul_fin x y (cls1 hx).1 (cls0 hy).1 h1 h2, if_pos (.inr (cls0 hy).2), wordN_sgn0, hs]
    · rw [show prodT (clsI x) (clsI y) = none by rw [hx, hy]; rfl]
      left
      rw [mul_fin x y (cls1 hx).1 (cls1 hy).1 h1 h2, if_neg]
      rintro (h | h)
      · exact (cls1 hx).2 h
      · exact (cls1 hy).2 h
    · rw [show prodT (clsI x) (clsI y) = some infN by rw [hx, hy]; rfl]
      left
      rw [mul_inf x y (.inr (.inr ⟨cls2 hy, (cls1 hx).1, (cls1 hx).2⟩)) h1 h2, wordN_sgnI, hs]
    · rw [show prodT (clsI x) (clsI y) = some nanN by rw [hx, hy]; rfl]
      right
      refine ⟨mul_nan x y (.inr (.inr (.inl ⟨cls2 hx, (cls0 hy).1, (cls0 hy).2⟩))) h1 h2, ?_⟩
      show classI ((sgnW nanN _ : Nat) : Int) = 5
      rw [sgnW_nan]; exact nanN_class
    · rw [show prodT (clsI x) (clsI y) = some infN by rw [hx, hy]; rfl]
      left
      rw [mul_inf x y (.inr (.inl ⟨cls2 hx, (cls1 hy).1, (cls1 hy).2⟩)) h1 h2, wordN_sgnI, hs]
    · rw [show prodT (clsI x) (clsI y) = some infN by rw [hx, hy]; rfl]
      left
      rw [mul_inf x y (.inl ⟨cls2 hx, cls2 hy⟩) h1 h2, wordN_sgnI, hs]
theorem mach_div : Mach (Ieee.double.div x y) (divW x y) := by
  unfold divW toldW
  have hx := cls_cases x
  have hy := cls_cases y
  by_cases hn : clsI x = 3 ∨ clsI y = 3
  · rw [if_pos hn]
    refine .inr ⟨div_nan x y ?_ h1 h2, nanN_class⟩
    rcases hn with h | h
    · exact .inl (cls3 h)
    · exact .inr (.inl (cls3 h))
  · rw [if_neg hn]
    have a1 : clsI x ≠ 3 := fun h => hn (.inl h)
    have a2 : clsI y ≠ 3 := fun h => hn (.inr h)
    have hs : (negW x != negW y) = (negW x ^^ negW y) := rfl
    rcases hx with hx | hx | hx | hx <;> rcases hy with hy | hy | hy | hy <;> first | exact absurd hx a1 | exact absurd hy a2 | skip
    · rw [show quoT (clsI x) (clsI y) = some nanN by rw [hx, hy]; rfl]
      right
      refine ⟨div_nan x y (.inr (.inr (.inr ⟨(cls0 hx).1, (cls0 hy).1, (cls0 hx).2, (cls0 hy).2⟩))) h1 h2, ?_⟩
      show classI ((sgnW nanN _ : Nat) : Int) = 5
      rw [sgnW_nan]; exact nanN_class
    · rw [show quoT (clsI x) (clsI y) = some 0 by rw [hx, hy]; rfl]
      left
      rw [div_zero x y (.inr ⟨(cls0 hx).1, (cls1 hy).1, (cls0 hx).2, (cls1 hy).2⟩) h1 h2, wordN_sgn0, hs]
    · rw [show quoT (clsI x) (clsI y) = some 0 by rw [hx, hy]; rfl]
      left
      rw [div_zero x y (.inl ⟨cls2 hy, (cls0 hx).1⟩) h1 h2, wordN_sgn0, hs]
    · rw [show quoT (clsI x) (clsI y) = some infN by rw [hx, hy]; rfl]
      left
      rw [div_inf x y (.inr ⟨(cls1 hx).1, (cls0 hy).1, (cls1 hx).2, (cls0 hy).2⟩) h1 h2, wordN_sgnI, hs]
    · rw [show quoT (clsI x) (clsI y) = none by rw [hx, hy]; rfl]
      left
      rw [div_fin x y (cls1 hx).1 (cls1 hy).1 h1 h2 (cls1 hx).2 (cls1 hy).2]
    · rw [show quoT (clsI x) (clsI y) = some 0 by rw [hx, hy]; rfl]
      left
      rw [div_zero x y (.inl ⟨cls2 hy, (cls1 hx).1⟩) h1 h2, wordN_sgn0, hs]
    · rw [show quoT (clsI x) (clsI y) = some infN by rw [hx, hy]; rfl]
      left
      rw [div_inf x y (.inl ⟨cls2 hx, (cls0 hy).1⟩) h1 h2, wordN_sgnI, hs]
    · rw [show quoT (clsI x) (clsI y) = some infN by rw [hx, hy]; rfl]
      left
      rw [div_inf x y (.inl ⟨cls2 hx, (cls1 hy).1⟩) h1 h2, wordN_sgnI, hs]
    · rw [show quoT (clsI x) (clsI y) = some nanN by rw [hx, hy]; rfl]
      right
      refine ⟨div_nan x y (.inr (.inr (.inl ⟨cls2 hx, cls2 hy⟩))) h1 h2, ?_⟩
      show classI ((sgnW nanN _ : Nat) : Int) = 5
      rw [sgnW_nan]; exact nanN_class
end
theorem mach_sqrt {x : Nat} (h1 : x < 18446744073709551616) : Mach (Ieee.double.sqrt x) (sqrtW x) := by
  unfold sqrtW
  have hx := cls_cases x
  by_cases h03 : clsI x = 0 ∨ clsI x = 3
  · rw [if_pos h03]
    rcases h03 with h | h
    · exact .inl (sqrt_zero x (cls0 h).1 h1 (cls0 h).2)
    · exact .inr ⟨sqrt_nan x (.inl (cls3 h)) h1, cls3 h⟩
  · rw [if_neg h03]
    by_cases hs : negW x = true
    · rw [if_pos hs]
      right
      refine ⟨?_, nanN_class⟩
      rcases hx with h | h | h | h
      · exact absurd (.inl h) h03
      · exact sqrt_neg x (cls1 h).1 h1 (cls1 h).2 hs
      · exact sqrt_nan x (.inr ⟨cls2 h, hs⟩) h1
      · exact absurd (.inr h) h03
    · have hs' : negW x = false := by simpa using hs
      rw [if_neg hs]
      left
      by_cases h2 : clsI x = 2
      · rw [if_pos h2]; exact sqrt_inf x (cls2 h2) hs' h1
      · rw [if_neg h2]
        rcases hx with h | h | h | h
        · exact absurd (.inl h) h03
        · exact sqrt_fin x (cls1 h).1 h1 (cls1 h).2 hs'
        · exact absurd h h2
        · exact absurd (.inr h) h03
end Go.Plumb
