/-
  The law package of layer 3: known, the chapter's rows (printed by dyadknown.py).
-/
import Derived.Test.YtjlaadadbpffdaaDoorDyM
set_option linter.unusedSimpArgs false
set_option linter.unusedVariables false
namespace Go.Plumb
open Go.RowKit
theorem w_one : nrm (dyW 4607182418800017408) = ⟨false, 1, 0⟩ := by rw [nrm_is 1 52 (by decide) (by decide)]; rfl
theorem w_half : nrm (dyW 4602678819172646912) = ⟨false, 1, -1⟩ := by rw [nrm_is 1 52 (by decide) (by decide)]; rfl
theorem w_msix : nrm (dyW 13841813454723219456) = ⟨true, 3, 1⟩ := by rw [nrm_is 3 51 (by decide) (by decide)]; rfl
theorem w_tenth : nrm (dyW 4591870180066957722) = ⟨false, 3602879701896397, -55⟩ := by rw [nrm_is 3602879701896397 1 (by decide) (by decide)]; rfl
theorem w_mzero : nrm (dyW 9223372036854775808) = zeroD := nrm_zero (by decide)
theorem n_whole0 : nrm ⟨decide ((0 : Int) < 0), (0 : Int).natAbs, 0⟩ = zeroD := nrm_zero rfl
theorem n_whole3 : nrm ⟨decide ((3 : Int) < 0), (3 : Int).natAbs, 0⟩ = ⟨false, 3, 0⟩ := nrm_o (by decide)
theorem n_whole10 : nrm ⟨decide ((10 : Int) < 0), (10 : Int).natAbs, 0⟩ = ⟨false, 5, 1⟩ := by rw [nrm_is 5 1 (by decide) (by decide)]; rfl
theorem len_le_one {x : Nat} (h : x < 18446744073709551616) : (limbs x).length ≤ 1 := length_limbs_le x 1 (by simpa using h)
theorem k_add1 : addO ⟨false, 1, 0⟩ ⟨false, 1, -60⟩ = (⟨false, 1152921504606846977, -60⟩, 0) := addO_is (X := ⟨false, 1, 0⟩) (Y := ⟨false, 1, -60⟩) (D := ⟨false, 1152921504606846977, -60⟩) (by decide) (by decide) (nrm_o (by decide)) (nrm_o (by decide)) (by decide) rfl (nrm_o (by decide)) (by decide)
theorem k_add2 : addO ⟨false, 1, 0⟩ ⟨false, 1, -53⟩ = (⟨false, 9007199254740993, -53⟩, 0) := addO_is (X := ⟨false, 1, 0⟩) (Y := ⟨false, 1, -53⟩) (D := ⟨false, 9007199254740993, -53⟩) (by decide) (by decide) (nrm_o (by decide)) (nrm_o (by decide)) (by decide) rfl (nrm_o (by decide)) (by decide)
theorem k_cmp : cmpO ⟨false, 1, -1⟩ zeroD = (1, 0) := cmpO_is (X := ⟨false, 1, -1⟩) (Y := zeroD) (by decide) (by decide) (nrm_o (by decide)) (nrm_zero rfl) (by decide) rfl
theorem k_sub : addO ⟨false, 3, 0⟩ ⟨!false, 3, 0⟩ = (zeroD, 0) := addO_is (X := ⟨false, 3, 0⟩) (Y := ⟨true, 3, 0⟩) (D := ⟨false, 0, 0⟩) (by decide) (by decide) (nrm_o (by decide)) (nrm_o (by decide)) (by decide) rfl (nrm_zero rfl) (by decide)
theorem k_mul : mulO ⟨false, 3602879701896397, -55⟩ ⟨false, 5, 1⟩ = (⟨false, 18014398509481985, -54⟩, 0) := mulO_is (X := ⟨false, 3602879701896397, -55⟩) (Y := ⟨false, 5, 1⟩) (D := ⟨false, 18014398509481985, -54⟩) (by decide) (by decide) (nrm_o (by decide)) (nrm_o (by decide)) rfl (nrm_o (by decide)) (by decide)
theorem k_neg : normO ⟨!false, 1, -1075⟩ = (⟨true, 1, -1075⟩, 0) := normO_is (by decide) (nrm_o (by decide)) (by decide)
theorem near1 {s t : Bool} {m m' : Nat} {e e' : Int} (h : m % 2 = 1) (h' : m' % 2 = 1) (he : e - e' ≤ 12000 ∧ e' - e ≤ 12000) : farD (nrm ⟨s, m, e⟩) (nrm ⟨t, m', e'⟩) ∨ nearD (nrm ⟨s, m, e⟩) (nrm ⟨t, m', e'⟩) := by
  rw [nrm_o h, nrm_o h']; exact .inr (.inr (.inr he))
theorem near0 {x : Dy} {s : Bool} {e : Int} : farD (nrm x) (nrm ⟨s, 0, e⟩) ∨ nearD (nrm x) (nrm ⟨s, 0, e⟩) := by
  rw [nrm_zero (d := ⟨s, 0, e⟩) rfl]; exact .inr (.inr (.inl rfl))
theorem text_of {n : Nat} {l : List Nat} (h : n ≠ 0) (hd : digs n = (l.map digB)) : textN n = (l.map digB).reverse := by unfold textN; rw [if_neg h, hd]
theorem digs_step' {n q r : Nat} (h : n ≠ 0) (hq : n / 10 = q) (hr : n % 10 = r) : digs n = digB r :: digs q := by rw [digs_pos h, hq, hr]
theorem t_one : textN 1 = [49] := by
  unfold textN
  rw [if_neg (by decide)]
  repeat rw [digs_step' (by decide) rfl rfl]
  rw [digs_zero]
  rfl
theorem t_three : textN 3 = [51] := by
  unfold textN
  rw [if_neg (by decide)]
  repeat rw [digs_step' (by decide) rfl rfl]
  rw [digs_zero]
  rfl
theorem t_zero : textN 0 = [48] := by unfold textN; rw [if_pos rfl]
theorem t_b : textN 1152921504606846977 = [49, 49, 53, 50, 57, 50, 49, 53, 48, 52, 54, 48, 54, 56, 52, 54, 57, 55, 55] := by
  unfold textN
  rw [if_neg (by decide)]
  repeat rw [digs_step' (by decide) rfl rfl]
  rw [digs_zero]
  rfl
theorem t_x : textN 18014398509481985 = [49, 56, 48, 49, 52, 51, 57, 56, 53, 48, 57, 52, 56, 49, 57, 56, 53] := by
  unfold textN
  rw [if_neg (by decide)]
  repeat rw [digs_step' (by decide) rfl rfl]
  rw [digs_zero]
  rfl
theorem i_m1 : Lib.itoa (-1) = [45, 49] := by decide +kernel
theorem i_1 : Lib.itoa 1 = [49] := by decide +kernel
theorem i_0 : Lib.itoa 0 = [48] := by decide +kernel
theorem i_60 : Lib.itoa (-60) = [45, 54, 48] := by decide +kernel
theorem i_54 : Lib.itoa (-54) = [45, 53, 52] := by decide +kernel
theorem x_one : (⟨(textD false 1 (-1)).toArray⟩ : ByteArray) = ⟨#[49, 112, 45, 49]⟩ := by unfold textD; rw [t_one, i_m1]; rfl
theorem x_msix : (⟨(textD true 3 1).toArray⟩ : ByteArray) = ⟨#[45, 51, 112, 49]⟩ := by unfold textD; rw [t_three, i_1]; rfl
theorem x_zero : (⟨(textD false 0 0).toArray⟩ : ByteArray) = ⟨#[48]⟩ := by unfold textD; rw [t_zero]; rfl
theorem x_b : (⟨(textD false 1152921504606846977 (-60)).toArray⟩ : ByteArray) = ⟨#[49, 49, 53, 50, 57, 50, 49, 53, 48, 52, 54, 48, 54, 56, 52, 54, 57, 55, 55, 112, 45, 54, 48]⟩ := by unfold textD; rw [t_b, i_60]; rfl
theorem x_x : (⟨(textD false 18014398509481985 (-54)).toArray⟩ : ByteArray) = ⟨#[49, 56, 48, 49, 52, 51, 57, 56, 53, 48, 57, 52, 56, 49, 57, 56, 53, 112, 45, 53, 52]⟩ := by unfold textD; rw [t_x, i_54]; rfl
theorem r_is {s : Bool} {m : Nat} {e : Int} {W : Nat} (h : m % 2 = 1) (hW : roundN s m e = W) : rndD (nrm ⟨s, m, e⟩) = W := by rw [nrm_o h]; exact hW
end Go.Plumb
namespace Go.Proofs.YtjlaadadbpffdaaDoor
open Go.RowKit Go.Plumb
section
variable {w : World} {a b : Option Addr} {n c m d : Nat} {l k : List Nat}
end
end Go.Proofs.YtjlaadadbpffdaaDoor
