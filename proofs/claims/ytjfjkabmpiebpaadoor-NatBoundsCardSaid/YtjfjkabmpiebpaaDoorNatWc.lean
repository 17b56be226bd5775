/-
  Numbers of as many limbs as may be, and just more: nat.Norm, nat.Cmp refuse; what NatBounds calls.
-/
import Derived.Test.YtjfjkabmpiebpaaDoorNatWa
set_option linter.unusedSimpArgs false
set_option linter.unusedVariables false
namespace Go.Plumb
open Go.RowKit
/-- n noughts below a limb of one bit at the top. -/
def bigL (n : Nat) : List Nat := (List.replicate (n + 1) 0).set n 9223372036854775808
def moreL (n : Nat) : List Nat := List.replicate n 0 ++ [1]
theorem bigL_length (n : Nat) : (bigL n).length = n + 1 := by simp [bigL]
theorem bigL_limbs (n : Nat) : Limbs (bigL n) := (Limbs.replicate _).set _ _ (by decide)
theorem bigL_val (n : Nat) : valL (bigL n) = 2 ^ (64 * n + 63) := by
  unfold bigL
  have hv := valL_set (List.replicate (n + 1) 0) n 9223372036854775808 (by simp)
  rw [valL_replicate, Nat.zero_add] at hv
  have e0 : (List.replicate (n + 1) 0).getD n 0 = 0 := by simp [List.getD, List.getElem?_replicate]
  rw [e0, Nat.mul_zero, Nat.add_zero] at hv
  rw [hv, powB64, Nat.pow_add]
theorem moreL_length (n : Nat) : (moreL n).length = n + 1 := by simp [moreL]
theorem moreL_limbs (n : Nat) : Limbs (moreL n) := (Limbs.replicate _).append (Limbs.cons (by decide) Limbs.nil)
theorem moreL_val (n : Nat) : valL (moreL n) = 18446744073709551616 ^ n := by
  unfold moreL
  rw [valL_append, valL_replicate, List.length_replicate]
  simp [valL]
theorem len_gt (n X : Nat) (h : 18446744073709551616 ^ n ≤ X) : n < (limbs X).length := by
  apply Nat.lt_of_not_le
  intro hle
  have h1 := lt_pow_length X
  have h2 : 18446744073709551616 ^ (limbs X).length ≤ 18446744073709551616 ^ n := Nat.pow_le_pow_right (by decide) hle
  omega
theorem bigL_top (n : Nat) : 2 ^ (64 * n + 63) * 2 = 18446744073709551616 ^ (n + 1) := by
  rw [powB64, ← Nat.pow_succ, show 64 * (n + 1) = (64 * n + 63).succ by omega]
theorem big_add (n : Nat) : n + 1 < (limbs (valL (bigL n) + valL (bigL n))).length := by
  apply len_gt
  rw [bigL_val, ← Nat.mul_two, bigL_top]
  exact Nat.le_refl _
theorem big_two (n : Nat) : n + 1 < (limbs (valL (bigL n) * 2)).length := by
  apply len_gt
  rw [bigL_val, bigL_top]
  exact Nat.le_refl _
theorem more_len (n : Nat) : n < (limbs (valL (moreL n))).length := len_gt _ _ (by rw [moreL_val]; exact Nat.le_refl _)
theorem big_limbs (n : Nat) : limbs (valL (bigL n)) = bigL n := by
  apply limbs_valL (bigL_limbs n)
  right
  rw [bigL_length]
  simp [bigL, List.getD]
theorem big_pow (n k : Nat) (h : k = 64 * n + 63) : limbs (2 ^ k) = bigL n := by rw [h, ← bigL_val, big_limbs]
theorem big_lenN (n : Nat) : lenN (valL (bigL n)) = 64 * n + 64 := by
  rw [bigL_val]
  unfold lenN
  rw [if_neg (Nat.ne_of_gt (Nat.two_pow_pos _)), Nat.log2_two_pow]
theorem big_noughts (n : Nat) : valL (bigL n ++ [0, 0]) = valL (bigL n) := by
  rw [valL_append]
  simp [valL]
theorem big_shr (n k : Nat) (h : k = 64 * n + 63) : valL (bigL n) / 2 ^ k = 1 ∧ decide (valL (bigL n) % 2 ^ k ≠ 0) = false := by
  rw [bigL_val, h]
  exact ⟨Nat.div_self (Nat.two_pow_pos _), by simp [Nat.mod_self]⟩
theorem pow_long (n k : Nat) (h : 64 * n ≤ k) : n < (limbs (1 * 2 ^ k)).length := by
  apply len_gt
  rw [Nat.one_mul, powB64]
  exact Nat.pow_le_pow_right (by decide) h
theorem num_three {W : World} {g x y z : Nat} {t : TypeId} (hg : g = W.heap.size) (hx : x < 18446744073709551616) (hy : y < 18446744073709551616) (hz : z < 18446744073709551616) : Num (W.alloc (.cells #[.int .u64 (x : Int), .int .u64 (y : Int), .int .u64 (z : Int)] t)) (some ⟨g, 0, none⟩) 3 3 [x, y, z] := by
  subst hg
  refine ⟨rfl, by simp, by unfold maxLen; omega, Limbs.cons hx (Limbs.cons hy (Limbs.cons hz Limbs.nil)), fun j hj => ?_⟩
  have : j = 0 ∨ j = 1 ∨ j = 2 := by simp at hj; omega
  rcases this with rfl | rfl | rfl
  · exact ⟨W.heap.size, 0, rfl, World.cell?_alloc_at (hn := rfl) ..⟩
  · exact ⟨W.heap.size, 0, rfl, World.cell?_alloc_at (hn := rfl) ..⟩
  · exact ⟨W.heap.size, 0, rfl, World.cell?_alloc_at (hn := rfl) ..⟩
theorem limbs_191 : limbs 3138550867693340381917894711603833208051177722232017256448 = [0, 0, 9223372036854775808] := by
  rw [limbs_pos (by decide)]
  show _ :: limbs 170141183460469231731687303715884105728 = _
  rw [limbs_pos (by decide)]
  show _ :: _ :: limbs 9223372036854775808 = _
  rw [limbs_1 (by decide) (by decide)]
theorem short_limbs (x k : Nat) (h : x < 18446744073709551616 ^ k) (hk : k ≤ 10) : (limbs x).length ≤ 10 := Nat.le_trans (length_limbs_le x k h) hk
end Go.Plumb
namespace Go.Proofs.YtjfjkabmpiebpaaDoor
open Go.RowKit Go.Plumb

theorem Norm_bad (a : Option Addr) (c : Nat) (l : List Nat) (w : World) (hA : Arr w a c l) (hl : 4096 < (limbs (valL l)).length) :
    Calls Tryd.prog 46 #[.slice a l.length c] w fun e w' => e = .returned (.tuple #[.slice none 0 0, .int .i64 2]) ∧ Below w.heap.size w w' := by
  go_enter Tryd.func46, Tryd.ntmps46
  go_wp2_with fail
  have hB1 : Below w.heap.size w ((w.alloc (.cells #[.slice a l.length c] 22)).alloc (.cells #[.pointer (some ⟨w.heap.size, 0, none⟩)] 62)) := by (repeat' (first | exact Below.refl _ _ | assumption | (refine below_alloc ?_ _) | (refine Below.setCell ?_ ?_ _) | (refine Below.drew ?_) | (refine below_drewN ?_ _))) <;> (first | (simp; done) | (simp; omega) | omega)
  refine (open1_bad (w.heap.size + 1) w.heap.size 1 a c l _ (by omega) (by omega) (by omega) (by simp [go_sem]) (by simp [go_sem]) (by simp [go_sem]) (hA.below hB1) hl).mono ?_
  rintro e w' ⟨rfl, rfl⟩
  have hB2 := hB1.setCell (p := ⟨w.heap.size, 0, none⟩) (Nat.le_refl _) (.slice a (limbs (valL l)).length c)
  obtain ⟨w2, hw2⟩ : ∃ w2, ((w.alloc (.cells #[.slice a l.length c] 22)).alloc (.cells #[.pointer (some ⟨w.heap.size, 0, none⟩)] 62)).setCell ⟨w.heap.size, 0, none⟩ (.slice a (limbs (valL l)).length c) = w2 := ⟨_, rfl⟩
  rw [hw2] at hB2 ⊢
  have HB2 := Lib.hid hB2
  clear hB2 hw2 hB1 hA hl
  go_wp2_with fail
  go_ret2
  exact ⟨rfl, HB2.out⟩
theorem Cmp_bad (a b : Option Addr) (n c d : Nat) (l : List Nat) (w : World) (hA : Arr w a c l) (hl : 4096 < (limbs (valL l)).length) :
    Calls Tryd.prog 45 #[.slice a l.length c, .slice b n d] w fun e w' => e = .returned (.tuple #[.int .i64 0, .int .i64 2]) ∧ Below w.heap.size w w' := by
  go_enter Tryd.func45, Tryd.ntmps45
  go_wp2_with fail
  have hB1 : Below w.heap.size w (((w.alloc (.cells #[.slice a l.length c] 22)).alloc (.cells #[.slice b n d] 22)).alloc (.cells #[.pointer (some ⟨w.heap.size, 0, none⟩), .pointer (some ⟨w.heap.size + 1, 0, none⟩)] 62)) := by (repeat' (first | exact Below.refl _ _ | assumption | (refine below_alloc ?_ _) | (refine Below.setCell ?_ ?_ _) | (refine Below.drew ?_) | (refine below_drewN ?_ _))) <;> (first | (simp; done) | (simp; omega) | omega)
  refine (open1_bad (w.heap.size + 1 + 1) w.heap.size 2 a c l _ (by omega) (by omega) (by omega) (by simp [go_sem]) (by simp [go_sem]) (by simp [go_sem]) (hA.below hB1) hl).mono ?_
  rintro e w' ⟨rfl, rfl⟩
  have hB2 := hB1.setCell (p := ⟨w.heap.size, 0, none⟩) (Nat.le_refl _) (.slice a (limbs (valL l)).length c)
  obtain ⟨w2, hw2⟩ : ∃ w2, (((w.alloc (.cells #[.slice a l.length c] 22)).alloc (.cells #[.slice b n d] 22)).alloc (.cells #[.pointer (some ⟨w.heap.size, 0, none⟩), .pointer (some ⟨w.heap.size + 1, 0, none⟩)] 62)).setCell ⟨w.heap.size, 0, none⟩ (.slice a (limbs (valL l)).length c) = w2 := ⟨_, rfl⟩
  rw [hw2] at hB2 ⊢
  have HB2 := Lib.hid hB2
  clear hB2 hw2 hB1 hA hl
  go_wp2_with fail
  go_ret2
  exact ⟨rfl, HB2.out⟩

theorem big_row (n : Nat) (hn : n ≤ 90000) (w : World) : Arr (w.alloc (.cells ((zerosA (n + 1)).setIfInBounds n (.int .u64 ((9223372036854775808 : Nat) : Int))) 36)) (some ⟨w.heap.size, 0, none⟩) (n + 1) (bigL n) := by
  have ho := owns_zeros w w.heap.size (n + 1) (Nat.le_refl _) (by omega)
  have hO : OwnL (w.alloc (.cells (zerosA (n + 1)) 36)) w.heap.size (.slice (some ⟨w.heap.size, 0, none⟩) (n + 1) (n + 1)) (List.replicate (n + 1) 0) := by unfold OwnL; rw [List.length_replicate]; exact ho
  have h := OwnL.store hO n 9223372036854775808 _ rfl
  rw [World.setCell_alloc_at' w (zerosA (n + 1)) n] at h
  exact OwnL.arr' h (bigL_limbs n)
theorem zero_cell (n : Nat) (hn : n ≤ 90000) (w : World) : (w.alloc (.cells (zerosA (n + 1)) 36)).cell? ⟨w.heap.size, n, none⟩ = some (.int .u64 0) ∧ (w.alloc (.cells (zerosA (n + 1)) 36)).frozen? ⟨w.heap.size, n, none⟩ = false := by
  have ho := owns_zeros w w.heap.size (n + 1) (Nat.le_refl _) (by omega)
  have hO : OwnL (w.alloc (.cells (zerosA (n + 1)) 36)) w.heap.size (.slice (some ⟨w.heap.size, 0, none⟩) (n + 1) (n + 1)) (List.replicate (n + 1) 0) := by unfold OwnL; rw [List.length_replicate]; exact ho
  exact ⟨OwnL.cell hO n 0 (by simp), OwnL.thaw hO n⟩
theorem make_4096 (W : World) : Sem.run Tryd.prog ((Instr.makeSlice 22 (.int .i64 4096) (.int .i64 4096))) W = .ok (.slice (some ⟨W.heap.size, 0, none⟩) 4096 4096) (W.alloc (.cells (zerosA 4096) 36)) := by
  have := run_makeI 4096 (by decide) (by decide) W
  rw [show (4096 : Int).toNat = 4096 from rfl] at this
  exact this
theorem zeros_row (W : World) (o : Obj) (n k : Nat) (h : k = n) (hn : n ≤ 100000) : ((W.alloc (.cells (zerosA n) 36)).alloc o).ownsRow W.heap.size 36 1 (.slice (some ⟨W.heap.size, 0, none⟩) n n) n ((List.replicate k 0).map limbV) := by
  subst h
  exact World.ownsRow.alloc (owns_zeros W W.heap.size k (Nat.le_refl _) hn) o
theorem cell_one_at2 {W : World} {g : Nat} {v : Value} {t : TypeId} (h : g = W.heap.size) : ∀ (j : Nat) (u : Value), [v][j]? = some u → (W.alloc (.cells #[v] t)).cell? (Addr.add ⟨g, 0, none⟩ j) = some u := by
  subst h; exact cell_one_new _ _ _
theorem cell_two_at {W : World} {g : Nat} {u v : Value} {t : TypeId} (h : g = W.heap.size) : ∀ (j : Nat) (x : Value), [u, v][j]? = some x → (W.alloc (.cells #[u, v] t)).cell? (Addr.add ⟨g, 0, none⟩ j) = some x := by
  subst h
  intro j x hx
  match j, hx with
  | 0, hx => simp at hx; subst hx; exact World.cell?_alloc_at (hn := rfl) ..
  | 1, hx => simp at hx; subst hx; exact World.cell?_alloc_at (hn := rfl) ..
theorem rows_num {w1 : World} {v : Value} {l : List Nat} {B n : Nat} (hn : n = l.length) (hl : Limbs l) (h : w1.ownsRow B 36 1 v n (l.map limbV)) : ∃ a n c, v = .slice a n c ∧ Num w1 a n c l := by
  subst hn
  exact own_num (show OwnL w1 B v l from h) hl
section
variable {w : World} {a : Option Addr} {n c : Nat} {N M : Nat}
theorem b_len (hN : N = 4095) : (limbs (valL (bigL N))).length = 4096 := by rw [big_limbs, bigL_length, hN]
theorem b_add (hN : N = 4095) (h1 : Num w a n c (bigL N)) :
    Calls Tryd.prog 17 #[.slice a n c, .slice a n c] w fun e w' => e = .returned (.tuple #[.slice none 0 0, .int .i64 3]) ∧ Below w.heap.size w w' := by
  obtain ⟨rfl, h1⟩ := h1
  have hb := b_len hN
  refine (Add_any a a c c _ _ w h1 h1 (by rw [hb]; exact Nat.le_refl _) (by rw [hb]; exact Nat.le_refl _)).mono ?_
  rintro e w' ⟨v, x, rfl, h, hb⟩
  obtain ⟨rfl, rfl⟩ := h.2 (by have := big_add N; omega)
  exact ⟨rfl, hb⟩
theorem b_shl (hN : N = 4095) (h1 : Num w a n c (bigL N)) :
    Calls Tryd.prog 35 #[.slice a n c, .int .i64 1] w fun e w' => e = .returned (.tuple #[.slice none 0 0, .int .i64 3]) ∧ Below w.heap.size w w' := by
  obtain ⟨rfl, h1⟩ := h1
  have hb := b_len hN
  refine (Shl_any a c 1 _ w h1 (by rw [hb]; exact Nat.le_refl _) (by decide)).mono ?_
  rintro e w' ⟨v, x, rfl, h, hb⟩
  rw [Nat.pow_one] at h
  obtain ⟨rfl, rfl⟩ := h.2 (by have := big_two N; omega)
  exact ⟨rfl, hb⟩
theorem b_mul (hN : N = 4095) {b : Option Addr} {m d : Nat} (h1 : Num w a n c (bigL N)) (h2 : Num w b m d [2]) :
    Calls Tryd.prog 24 #[.slice a n c, .slice b m d] w fun e w' => e = .returned (.tuple #[.slice none 0 0, .int .i64 3]) ∧ Below w.heap.size w w' := by
  obtain ⟨rfl, h1⟩ := h1
  obtain ⟨rfl, h2⟩ := h2
  have hb := b_len hN
  have e2 : valL [2] = 2 := rfl
  refine (Mul_any a b c d _ _ w h1 h2 (by rw [hb]; exact Nat.le_refl _) (by rw [e2]; exact Nat.le_trans (len_of (show Limbs [2] from h2.2.2.1)) (by decide))).mono ?_
  rintro e w' ⟨v, x, rfl, h, hb⟩
  rw [e2] at h
  obtain ⟨rfl, rfl⟩ := h.2 (by have := big_two N; omega)
  exact ⟨rfl, hb⟩
theorem b_norm (hM : M = 4096) (h1 : Num w a n c (moreL M)) :
    Calls Tryd.prog 46 #[.slice a n c] w fun e w' => e = .returned (.tuple #[.slice none 0 0, .int .i64 2]) ∧ Below w.heap.size w w' := by
  obtain ⟨rfl, h1⟩ := h1
  exact Norm_bad a c _ w h1 (by have := more_len M; omega)
theorem b_cmp (hM : M = 4096) (b : Option Addr) (m d : Nat) (h1 : Num w a n c (moreL M)) :
    Calls Tryd.prog 45 #[.slice a n c, .slice b m d] w fun e w' => e = .returned (.tuple #[.int .i64 0, .int .i64 2]) ∧ Below w.heap.size w w' := by
  obtain ⟨rfl, h1⟩ := h1
  exact Cmp_bad a b m c d _ w h1 (by have := more_len M; omega)
theorem b_pow2_long (k : Nat) (hk : 262144 ≤ k) (hk2 : k ≤ 9223372036854775807) :
    Calls Tryd.prog 36 #[.int .i64 (k : Int)] w fun e w' => e = .returned (.tuple #[.slice none 0 0, .int .i64 3]) ∧ Below w.heap.size w w' := by
  refine (Pow2_any k w hk2).mono ?_
  rintro e w' ⟨v, x, rfl, h, hb⟩
  obtain ⟨rfl, rfl⟩ := h.2 (by have := pow_long 4096 k (by omega); rw [Nat.one_mul] at this; exact this)
  exact ⟨rfl, hb⟩
theorem b_pow2 (hN : N = 4095) (k : Nat) (hk : k = 64 * N + 63) :
    Calls Tryd.prog 36 #[.int .i64 (k : Int)] w fun e w' => ∃ a' n' c', e = .returned (.tuple #[.slice a' n' c', .int .i64 0]) ∧ Num w' a' n' c' (bigL N) ∧ Below w.heap.size w w' := by
  refine (pow2_n k (by omega)).mono ?_
  rintro e w' ⟨a', n', c', rfl, h, hb⟩
  rw [big_pow N k hk] at h
  exact ⟨a', n', c', rfl, h, hb⟩
theorem b_bits (hN : N = 4095) (h1 : Num w a n c (bigL N)) :
    Calls Tryd.prog 39 #[.slice a n c] w fun e w' => e = .returned (.tuple #[.int .i64 262144, .int .i64 0]) ∧ Below w.heap.size w w' := by
  obtain ⟨rfl, h1⟩ := h1
  have hb := b_len hN
  have h := Bits_any a c _ w h1 (by rw [hb]; exact Nat.le_refl _)
  obtain ⟨K, hK⟩ : ∃ K : Nat, 64 * N + 64 = K := ⟨_, rfl⟩
  have hKI : (K : Int) = 262144 := by omega
  rw [big_lenN, hK, hKI] at h
  exact h
theorem b_same_norm (hN : N = 4095) (h1 : Num w a n c (bigL N ++ [0, 0])) :
    Calls Tryd.prog 46 #[.slice a n c] w fun e w' => ∃ a' n' c', e = .returned (.tuple #[.slice a' n' c', .int .i64 0]) ∧ Num w' a' n' c' (bigL N) ∧ Below w.heap.size w w' := by
  obtain ⟨rfl, h1⟩ := h1
  have hb := b_len hN
  refine (norm_any a c _ w h1 (by rw [big_noughts, hb]; exact Nat.le_refl _)).mono ?_
  rintro e w' ⟨a', c', rfl, h, hb⟩
  rw [big_noughts, big_limbs] at h ⊢
  exact ⟨a', _, c', rfl, ⟨rfl, h⟩, hb⟩
theorem b_shl_nil (k : Nat) (hk2 : k ≤ 9223372036854775807) :
    Calls Tryd.prog 35 #[.slice none 0 0, .int .i64 (k : Int)] w fun e w' => ∃ a' n' c', e = .returned (.tuple #[.slice a' n' c', .int .i64 0]) ∧ Num w' a' n' c' (limbs 0) ∧ Below w.heap.size w w' := by
  refine (Shl_any none 0 k [] w (Num.nil w).2 (by rw [show valL [] = 0 from rfl, limbs_zero]; decide) hk2).mono ?_
  rintro e w' ⟨v, x, rfl, h, hb⟩
  rw [show valL [] = 0 from rfl, Nat.zero_mul] at h
  obtain ⟨rfl, a', c', rfl, h'⟩ := h.1 (by rw [limbs_zero]; decide)
  exact ⟨a', _, c', rfl, ⟨rfl, h'⟩, hb⟩
theorem b_shl_far (k : Nat) (hk : 262144 ≤ k) (hk2 : k ≤ 9223372036854775807) (h1 : Num w a n c [1]) :
    Calls Tryd.prog 35 #[.slice a n c, .int .i64 (k : Int)] w fun e w' => e = .returned (.tuple #[.slice none 0 0, .int .i64 3]) ∧ Below w.heap.size w w' := by
  obtain ⟨rfl, h1⟩ := h1
  refine (Shl_any a c k _ w h1 (Nat.le_trans (len_of h1.2.2.1) (by decide)) hk2).mono ?_
  rintro e w' ⟨v, x, rfl, h, hb⟩
  rw [show valL [1] = 1 from rfl] at h
  obtain ⟨rfl, rfl⟩ := h.2 (pow_long 4096 k (by omega))
  exact ⟨rfl, hb⟩
theorem b_shr (hN : N = 4095) (k : Nat) (hk : k = 64 * N + 63) (h1 : Num w a n c (bigL N)) :
    Calls Tryd.prog 29 #[.slice a n c, .int .i64 (k : Int)] w fun e w' => ∃ a' n' c', e = .returned (.tuple #[.slice a' n' c', .bool false, .int .i64 0]) ∧ Num w' a' n' c' (limbs 1) ∧ Below w.heap.size w w' := by
  obtain ⟨rfl, h1⟩ := h1
  have hb := b_len hN
  refine (Shr_any a c k _ w h1 (by rw [hb]; exact Nat.le_refl _) (by omega)).mono ?_
  rintro e w' ⟨a', c', rfl, h, hb⟩
  rw [(big_shr N k hk).1] at h ⊢
  rw [(big_shr N k hk).2]
  exact ⟨a', _, c', rfl, ⟨rfl, h⟩, hb⟩
theorem of_n (x : Nat) (hx : x < 18446744073709551616) :
    Calls Tryd.prog 47 #[.int .u64 (x : Int)] w fun e w' => ∃ a' n' c', e = .returned (.slice a' n' c') ∧ Num w' a' n' c' (limbs x) ∧ Below w.heap.size w w' := by
  refine (nof_any x w hx).mono ?_
  rintro e w' ⟨a', c', rfl, h, hb⟩
  exact ⟨a', _, c', rfl, ⟨rfl, h⟩, hb⟩
end
end Go.Proofs.YtjfjkabmpiebpaaDoor
