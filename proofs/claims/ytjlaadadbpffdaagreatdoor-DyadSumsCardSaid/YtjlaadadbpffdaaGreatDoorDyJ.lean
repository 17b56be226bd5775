/-
  dyad.Text; the law package's of, half, text, float, num; the reference's Same.
-/
import Derived.Test.YtjlaadadbpffdaaGreatDoorDyI
import Derived.Test.YtjlaadadbpffdaaGreatDoorItoa
set_option linter.unusedSimpArgs false
set_option linter.unusedVariables false
namespace Go.Plumb
open Go.RowKit
/-- The table of the powers of ten lies in the world. -/
def PowT (P : Program) (w : World) : Prop := Lib.TabIs P w "internal/strconv.uint64pow10" .u64 Lib.pow10Tab
theorem below_grow (w : World) (k : Nat) (os : Array Obj) : Below w.heap.size w (Go.Sort.grow (w.drewN k) os) := by
  have h1 : Below w.heap.size w (w.drewN k) := below_drewN (Below.refl _ _) _
  have hh : (w.drewN k).heap = w.heap := by
    clear h1
    induction k with
    | zero => rfl
    | succ k ih => exact ih
  refine ⟨h1.os, h1.tape, h1.output, ?_, fun j hj => ?_⟩
  · show w.heap.size ≤ ((w.drewN k).heap ++ os).size
    rw [hh]; simp
  · show ((w.drewN k).heap ++ os)[j]? = w.heap[j]?
    rw [hh, Array.getElem?_append_left hj]
/-- A dyad's text. -/
def textD (s : Bool) (m : Nat) (e : Int) : List UInt8 := (if s then [45] else []) ++ textN m ++ (if e = 0 then [] else 112 :: Lib.itoa e)
theorem str_app (a b : List UInt8) : (⟨a.toArray⟩ : ByteArray) ++ ⟨b.toArray⟩ = ⟨(a ++ b).toArray⟩ := by
  apply ByteArray.ext
  simp [ByteArray.data_append]
end Go.Plumb
namespace Go.Proofs.YtjlaadadbpffdaaGreatDoor
open Go.RowKit Go.Plumb
theorem gPow : Tryz.prog.globalNamed "internal/strconv.uint64pow10" = some 4 := by kernel_rfl
theorem PowT_below {w w' : World} (h : PowT Tryz.prog w) (hb : Below w.heap.size w w') : PowT Tryz.prog w' := by
  unfold PowT Lib.TabIs World.var? at *
  rw [gPow] at *
  simp only [Option.bind_some] at *
  by_cases hl : 4 < w.heap.size
  · rw [hb.block _ hl]; exact h
  · rw [Array.getElem?_eq_none (Nat.le_of_not_lt hl)] at h
    cases h
section
variable {w : World} {a b : Option Addr} {n c m d : Nat} {l k : List Nat}
set_option maxHeartbeats 2000000 in
theorem dText_any (s : Bool) (e : Int) (hT : Tab w) (hQ : PowT Tryz.prog w) (h1 : Num w a n c l) (hl : l.length ≤ 1000) (hm : mayE e) (hTl : (textN (nrm ⟨s, valL l, e⟩).m).length ≤ 1000000) (hIl : (Lib.itoa (nrm ⟨s, valL l, e⟩).e).length ≤ 1000) :
    Calls Tryz.prog 152 #[.agg #[.bool s, .slice a n c, .int .i64 e]] w fun x w' => x = .returned (.tuple #[.string ⟨(textD (nrm ⟨s, valL l, e⟩).s (nrm ⟨s, valL l, e⟩).m (nrm ⟨s, valL l, e⟩).e).toArray⟩, .int .i64 0]) ∧ Below w.heap.size w w' := by
  have X0 := (Boxed3.new w s a n c e 24 rfl)
  have hO := fun g w' (hb : Below w.heap.size w w') (hp) (hx) (hg) => dopen1 (w.heap.size) g w.heap.size s a n c l e w' (Nat.le_refl _) hb.size hg hp hx (h1.below hb) (hT.below hb) (Nat.le_trans hl (by omega)) hm
  have hb0 := nrm_e_may (s := s) h1.limbs (Nat.le_trans hl (by omega)) hm
  have hb1 := Nat.le_trans (nrm_len (s := s) (e := e) h1.limbs) hl
  obtain ⟨X, hX⟩ : ∃ X, nrm ⟨s, valL l, e⟩ = X := ⟨_, rfl⟩
  simp only [hX] at hO hb0 hb1 hTl hIl ⊢
  obtain ⟨xs, xm, xe⟩ := X
  simp only at hO hb0 hb1 hTl hIl ⊢
  clear hX hT hm h1
  have hI := fun w' (hb : Below w.heap.size w w') => Tryz.strconv_Itoa xe (by omega) (by omega) w' (PowT_below hQ hb)
  have hTx := fun w' a' n' c' (hn : Num w' a' n' c' (limbs xm)) => text_n hn hb1
  simp only [valL_limbs] at hTx
  obtain ⟨T, hTe⟩ : ∃ T, textN xm = T := ⟨_, rfl⟩
  obtain ⟨I, hIe⟩ : ∃ I, Lib.itoa xe = I := ⟨_, rfl⟩
  unfold textD
  simp only [hTe] at hTx hTl ⊢
  simp only [hIe] at hI hIl ⊢
  have hTz : (⟨T.toArray⟩ : ByteArray).size ≤ 1000000 := hTl
  have hIz : (⟨I.toArray⟩ : ByteArray).size ≤ 1000 := hIl
  have hTz2 : (⟨(45 :: T).toArray⟩ : ByteArray).size ≤ 1000001 := by show (45 :: T).length ≤ _; simp; omega
  have hIz2 : (⟨(112 :: I).toArray⟩ : ByteArray).size ≤ 1001 := by show (112 :: I).length ≤ _; simp; omega
  clear hTe hIe hQ hb1
  have hs1 : (⟨#[45]⟩ : ByteArray) ++ ⟨T.toArray⟩ = ⟨(45 :: T).toArray⟩ := str_app [45] T
  have hs2 : (⟨#[112]⟩ : ByteArray) ++ ⟨I.toArray⟩ = ⟨(112 :: I).toArray⟩ := str_app [112] I
  have hs3 := str_app T (112 :: I)
  have hs4 := str_app (45 :: T) (112 :: I)
  cases xs
  all_goals by_cases he : xe = 0
  all_goals (first | rw [if_pos he] | rw [if_neg he])
  all_goals have HE := Lib.hid he
  all_goals (first | (have hd : decide (xe = 0) = true := decide_eq_true he) | (have hd : decide (xe = 0) = false := decide_eq_false he))
  all_goals (first | (have hd2 : (xe != 0) = true := by simpa using he) | (have hd2 : (xe != 0) = false := by simpa using he))
  all_goals clear he
  all_goals go_enter Tryz.func152, Tryz.ntmps152
  all_goals go_wp2_with fail
  all_goals refine (hO _ _ (by repeat' (first | exact Below.refl _ _ | refine below_alloc ?_ _)) (by simp [go_sem]) (X0.alloc _) (by omega)).mono ?_
  all_goals rintro x w1 ⟨a1, n1, c1, rfl, X1, h2, hB1, A1⟩
  all_goals have hB2 : Below w.heap.size w w1 := Below.trans (by repeat' (first | exact Below.refl _ _ | refine below_alloc ?_ _)) hB1
  all_goals clear hO X0 A1 hB1
  all_goals obtain ⟨x0, x1, x2, f0, f1, f2⟩ := id X1
  all_goals go_wp2_with fail
  all_goals refine (hTx _ _ _ _ h2).mono ?_
  all_goals rintro x w2 ⟨rfl, hb2⟩
  all_goals have X2 := X1.below hb2
  all_goals have hB3 := below_step hB2 hb2
  all_goals clear hb2 X1 hB2 x0 x1 x2 f0 f1 f2 h2 hTx
  all_goals obtain ⟨x0, x1, x2, f0, f1, f2⟩ := id X2
  all_goals go_wp2_with fail
  all_goals first
    | (go_ret2; exact ⟨by simp, hB3⟩)
    | skip
  all_goals refine (hI _ hB3).mono ?_
  all_goals rintro x w3 ⟨rfl, kk, os, rfl⟩
  all_goals have hg := below_grow w2 kk os
  all_goals generalize Go.Sort.grow (w2.drewN kk) os = w3 at hg ⊢
  all_goals have X3 := X2.below hg
  all_goals have hB4 := below_step hB3 hg
  all_goals clear hg hB3 X2 x0 x1 x2 f0 f1 f2 hI
  all_goals obtain ⟨x0, x1, x2, f0, f1, f2⟩ := id X3
  all_goals go_wp2_with fail
  all_goals go_ret2
  all_goals exact ⟨by simp, hB4⟩
end
end Go.Proofs.YtjlaadadbpffdaaGreatDoor
