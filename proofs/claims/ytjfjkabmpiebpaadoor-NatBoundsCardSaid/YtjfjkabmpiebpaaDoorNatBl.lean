/-
  Numbers in a world, by name: what the laws' walks call, each with its answer as a number.
-/
import Derived.Test.YtjfjkabmpiebpaaDoorNatBk
set_option linter.unusedSimpArgs false
set_option linter.unusedVariables false
namespace Go.Plumb
open Go.RowKit
/-- The slice a, of n elements, is the list l of limbs. -/
def Num (w : World) (a : Option Addr) (n c : Nat) (l : List Nat) : Prop := n = l.length ∧ Arr w a c l
theorem Num.below {w w' : World} {a : Option Addr} {n c : Nat} {l : List Nat} (h : Num w a n c l) (hb : Below w.heap.size w w') : Num w' a n c l := ⟨h.1, h.2.below hb⟩
theorem Num.limbs {w : World} {a : Option Addr} {n c : Nat} {l : List Nat} (h : Num w a n c l) : Limbs l := h.2.2.2.1
theorem Num.nil (w : World) : Num w none 0 0 [] := ⟨rfl, Arr.nil _ _ _ (by unfold maxLen; omega)⟩
/-- All the numbers that a walk has at hand. -/
def Nums (w : World) : List (Option Addr × Nat × Nat × List Nat) → Prop
  | [] => True
  | x :: L => Num w x.1 x.2.1 x.2.2.1 x.2.2.2 ∧ Nums w L
theorem Nums.below {w w' : World} {L : List (Option Addr × Nat × Nat × List Nat)} (hb : Below w.heap.size w w') : Nums w L → Nums w' L := by
  induction L with
  | nil => intro _; trivial
  | cons x L ih => rintro ⟨h1, h2⟩; exact ⟨h1.below hb, ih h2⟩
theorem Nums.get {w : World} {L : List (Option Addr × Nat × Nat × List Nat)} (h : Nums w L) (i : Nat) (a : Option Addr) (n c : Nat) (l : List Nat) (hi : L[i]? = some (a, n, c, l)) : Num w a n c l := by
  induction L generalizing i with
  | nil => simp at hi
  | cons x L ih =>
    cases i with
    | zero => simp at hi; subst hi; exact h.1
    | succ i => exact ih h.2 i (by simpa using hi)
/-- Where a walk stands: behind w, with its numbers. -/
def At (w wk : World) (L : List (Option Addr × Nat × Nat × List Nat)) : Prop := Below w.heap.size w wk ∧ Nums wk L
theorem At.start (w : World) : At w w [] := ⟨Below.refl _ _, trivial⟩
theorem At.later {w wk w' : World} {L : List (Option Addr × Nat × Nat × List Nat)} (h : At w wk L) (hb : Below wk.heap.size wk w') : At w w' L := ⟨below_step h.1 hb, h.2.below hb⟩
theorem At.call {w wk W w' : World} {L : List (Option Addr × Nat × Nat × List Nat)} (h : At w wk L) (h1 : Below wk.heap.size wk W) (hb : Below W.heap.size W w') : At w w' L := (h.later h1).later hb
theorem At.num {w wk W w' : World} {L : List (Option Addr × Nat × Nat × List Nat)} {a : Option Addr} {n c : Nat} {l : List Nat} (h : At w wk L) (h1 : Below wk.heap.size wk W) (hb : Below W.heap.size W w') (hn : Num w' a n c l) : At w w' ((a, n, c, l) :: L) := ⟨(h.call h1 hb).1, hn, (h.call h1 hb).2⟩
theorem At.get {w wk W : World} {L : List (Option Addr × Nat × Nat × List Nat)} (h : At w wk L) (i : Nat) {a : Option Addr} {n c : Nat} {l : List Nat} (hi : L[i]? = some (a, n, c, l)) (hb : Below wk.heap.size wk W) : Num W a n c l := (h.2.get i a n c l hi).below hb
theorem cell_old {W : World} {p : Addr} {v : Value} (o : Obj) (h : W.cell? p = some v) : (W.alloc o).cell? p = some v := by
  have hl := cell_lt h
  have := ((Below.refl _ W).alloc (Nat.le_refl _) o).cell (p := p) hl
  rw [this]; exact h
theorem num_one {W : World} {g x : Nat} {t : TypeId} (hg : g = W.heap.size) (hx : x < 18446744073709551616) : Num (W.alloc (.cells #[.int .u64 (x : Int)] t)) (some ⟨g, 0, none⟩) 1 1 [x] := by
  subst hg
  refine ⟨rfl, by simp, by unfold maxLen; omega, Limbs.cons hx Limbs.nil, fun j hj => ?_⟩
  have : j = 0 := by simpa using hj
  subst this
  exact ⟨W.heap.size, 0, rfl, World.cell?_alloc_at (hn := rfl) ..⟩
theorem num_two {W : World} {g x y : Nat} {t : TypeId} (hg : g = W.heap.size) (hx : x < 18446744073709551616) (hy : y < 18446744073709551616) : Num (W.alloc (.cells #[.int .u64 (x : Int), .int .u64 (y : Int)] t)) (some ⟨g, 0, none⟩) 2 2 [x, y] := by
  subst hg
  refine ⟨rfl, by simp, by unfold maxLen; omega, Limbs.cons hx (Limbs.cons hy Limbs.nil), fun j hj => ?_⟩
  have : j = 0 ∨ j = 1 := by simp at hj; omega
  rcases this with rfl | rfl
  · exact ⟨W.heap.size, 0, rfl, World.cell?_alloc_at (hn := rfl) ..⟩
  · exact ⟨W.heap.size, 0, rfl, World.cell?_alloc_at (hn := rfl) ..⟩
theorem len_of {l : List Nat} (h : Limbs l) : (Plumb.limbs (valL l)).length ≤ l.length := length_limbs_le _ _ (valL_lt h)
theorem len_add {l k : List Nat} (h : Limbs l) (h' : Limbs k) : (Plumb.limbs (valL l + valL k)).length ≤ l.length + k.length + 1 := by
  apply length_limbs_le
  have h1 := valL_lt h
  have h2 := valL_lt h'
  have p1 : 18446744073709551616 ^ l.length ≤ 18446744073709551616 ^ (l.length + k.length) := Nat.pow_le_pow_right (by decide) (by omega)
  have p2 : 18446744073709551616 ^ k.length ≤ 18446744073709551616 ^ (l.length + k.length) := Nat.pow_le_pow_right (by decide) (by omega)
  rw [Nat.pow_succ]
  omega
theorem len_mul {l k : List Nat} (h : Limbs l) (h' : Limbs k) : (Plumb.limbs (valL l * valL k)).length ≤ l.length + k.length := by
  apply length_limbs_le
  rw [Nat.pow_add]
  have h1 := valL_lt h
  have h2 := valL_lt h'
  exact Nat.mul_lt_mul'' h1 h2
end Go.Plumb
namespace Go.Proofs.YtjfjkabmpiebpaaDoor
open Go.RowKit Go.Plumb

section
variable {w : World} {a b : Option Addr} {n c m d : Nat} {l k : List Nat}
theorem add_n (X : Nat) (h1 : Num w a n c l) (h2 : Num w b m d k) (hX : valL l + valL k = X) (hl : l.length + k.length ≤ 4000) :
    Calls Tryd.prog 17 #[.slice a n c, .slice b m d] w fun e w' => ∃ a' n' c', e = .returned (.tuple #[.slice a' n' c', .int .i64 0]) ∧ Num w' a' n' c' (limbs X) ∧ Below w.heap.size w w' := by
  obtain ⟨rfl, h1⟩ := h1
  obtain ⟨rfl, h2⟩ := h2
  have e1 := len_of h1.2.2.1
  have e2 := len_of h2.2.2.1
  have e3 := len_add h1.2.2.1 h2.2.2.1
  refine (Add_ok a b c d l k w h1 h2 (by omega) (by omega) (by omega)).mono ?_
  rintro e w' ⟨a', c', rfl, h, hb⟩
  rw [hX] at h ⊢
  exact ⟨a', _, c', rfl, ⟨rfl, h⟩, hb⟩
theorem mul_n (X : Nat) (h1 : Num w a n c l) (h2 : Num w b m d k) (hX : valL l * valL k = X) (hl : l.length + k.length ≤ 4000) :
    Calls Tryd.prog 24 #[.slice a n c, .slice b m d] w fun e w' => ∃ a' n' c', e = .returned (.tuple #[.slice a' n' c', .int .i64 0]) ∧ Num w' a' n' c' (limbs X) ∧ Below w.heap.size w w' := by
  obtain ⟨rfl, h1⟩ := h1
  obtain ⟨rfl, h2⟩ := h2
  have e1 := len_of h1.2.2.1
  have e2 := len_of h2.2.2.1
  have e3 := len_mul h1.2.2.1 h2.2.2.1
  refine (Mul_ok a b c d l k w h1 h2 (by omega) (by omega) (by omega)).mono ?_
  rintro e w' ⟨a', c', rfl, h, hb⟩
  rw [hX] at h ⊢
  exact ⟨a', _, c', rfl, ⟨rfl, h⟩, hb⟩
theorem sub_n (X : Nat) (h1 : Num w a n c l) (h2 : Num w b m d k) (hX : valL l = valL k + X) (hl : l.length + k.length ≤ 4000) :
    Calls Tryd.prog 21 #[.slice a n c, .slice b m d] w fun e w' => ∃ a' n' c', e = .returned (.tuple #[.slice a' n' c', .int .i64 0]) ∧ Num w' a' n' c' (limbs X) ∧ Below w.heap.size w w' := by
  obtain ⟨rfl, h1⟩ := h1
  obtain ⟨rfl, h2⟩ := h2
  have e1 := len_of h1.2.2.1
  have e2 := len_of h2.2.2.1
  refine (Sub_ok a b c d l k w h1 h2 (by omega) (by omega) (by omega)).mono ?_
  rintro e w' ⟨a', c', rfl, h, hb⟩
  rw [show valL l - valL k = X by omega] at h ⊢
  exact ⟨a', _, c', rfl, ⟨rfl, h⟩, hb⟩
theorem sub_n_less (h1 : Num w a n c l) (h2 : Num w b m d k) (hX : valL l < valL k) (hl : l.length + k.length ≤ 4000) :
    Calls Tryd.prog 21 #[.slice a n c, .slice b m d] w fun e w' => e = .returned (.tuple #[.slice none 0 0, .int .i64 2]) ∧ Below w.heap.size w w' := by
  obtain ⟨rfl, h1⟩ := h1
  obtain ⟨rfl, h2⟩ := h2
  have e1 := len_of h1.2.2.1
  have e2 := len_of h2.2.2.1
  exact Sub_less a b c d l k w h1 h2 (by omega) (by omega) hX
theorem div_n (X Y : Nat) (h1 : Num w a n c l) (h2 : Num w b m d k) (h0 : valL k ≠ 0) (hX : valL l / valL k = X) (hY : valL l % valL k = Y) (hl : l.length + k.length ≤ 4000) :
    Calls Tryd.prog 26 #[.slice a n c, .slice b m d] w fun e w' => ∃ a' n' c' b' m' d', e = .returned (.tuple #[.slice a' n' c', .slice b' m' d', .int .i64 0]) ∧ Num w' a' n' c' (limbs X) ∧ Num w' b' m' d' (limbs Y) ∧ Below w.heap.size w w' := by
  obtain ⟨rfl, h1⟩ := h1
  obtain ⟨rfl, h2⟩ := h2
  have e1 := len_of h1.2.2.1
  have e2 := len_of h2.2.2.1
  refine (Div_ok a b c d l k w h1 h2 (by omega) (by omega) h0).mono ?_
  rintro e w' ⟨a', c', b', d', rfl, h, h', hb⟩
  rw [hX] at h ⊢
  rw [hY] at h' ⊢
  exact ⟨a', _, c', b', _, d', rfl, ⟨rfl, h⟩, ⟨rfl, h'⟩, hb⟩
theorem div_n_zero (h1 : Num w a n c l) (h2 : Num w b m d k) (h0 : valL k = 0) (hl : l.length + k.length ≤ 4000) :
    Calls Tryd.prog 26 #[.slice a n c, .slice b m d] w fun e w' => e = .returned (.tuple #[.slice none 0 0, .slice none 0 0, .int .i64 2]) ∧ Below w.heap.size w w' := by
  obtain ⟨rfl, h1⟩ := h1
  obtain ⟨rfl, h2⟩ := h2
  have e1 := len_of h1.2.2.1
  exact Div_zero a b c d l k w h1 h2 (by omega) h0
theorem sqrt_n (X Y : Nat) (h1 : Num w a n c l) (hX : isqN (valL l) = X) (hY : valL l = X * X + Y) (hl : l.length ≤ 4000) :
    Calls Tryd.prog 28 #[.slice a n c] w fun e w' => ∃ a' n' c' b' m' d', e = .returned (.tuple #[.slice a' n' c', .slice b' m' d', .int .i64 0]) ∧ Num w' a' n' c' (limbs X) ∧ Num w' b' m' d' (limbs Y) ∧ Below w.heap.size w w' := by
  obtain ⟨rfl, h1⟩ := h1
  have e1 := len_of h1.2.2.1
  refine (Sqrt_any a c l w h1 (by omega)).mono ?_
  rintro e w' ⟨a', c', b', d', rfl, h, h', hb⟩
  rw [hX] at h h' ⊢
  rw [show valL l - X * X = Y by omega] at h' ⊢
  exact ⟨a', _, c', b', _, d', rfl, ⟨rfl, h⟩, ⟨rfl, h'⟩, hb⟩
theorem shl_n (X i : Nat) (h1 : Num w a n c l) (hX : valL l * 2 ^ i = X) (hl : l.length ≤ 4000) (hi : i ≤ 9223372036854775807) (hlX : (limbs X).length ≤ 4096) :
    Calls Tryd.prog 35 #[.slice a n c, .int .i64 (i : Int)] w fun e w' => ∃ a' n' c', e = .returned (.tuple #[.slice a' n' c', .int .i64 0]) ∧ Num w' a' n' c' (limbs X) ∧ Below w.heap.size w w' := by
  obtain ⟨rfl, h1⟩ := h1
  have e1 := len_of h1.2.2.1
  refine (Shl_any a c i l w h1 (by omega) hi).mono ?_
  rintro e w' ⟨v, x, rfl, h, hb⟩
  rw [hX] at h
  obtain ⟨rfl, a', c', rfl, h'⟩ := h.1 hlX
  exact ⟨a', _, c', rfl, ⟨rfl, h'⟩, hb⟩
theorem shr_n (X i : Nat) (h1 : Num w a n c l) (hX : valL l / 2 ^ i = X) (hl : l.length ≤ 4000) (hi : i ≤ 9223372036854775807) :
    Calls Tryd.prog 29 #[.slice a n c, .int .i64 (i : Int)] w fun e w' => ∃ a' n' c', e = .returned (.tuple #[.slice a' n' c', .bool (decide (valL l % 2 ^ i ≠ 0)), .int .i64 0]) ∧ Num w' a' n' c' (limbs X) ∧ Below w.heap.size w w' := by
  obtain ⟨rfl, h1⟩ := h1
  have e1 := len_of h1.2.2.1
  refine (Shr_any a c i l w h1 (by omega) hi).mono ?_
  rintro e w' ⟨a', c', rfl, h, hb⟩
  rw [hX] at h ⊢
  exact ⟨a', _, c', rfl, ⟨rfl, h⟩, hb⟩
theorem norm_n (h1 : Num w a n c l) (hl : l.length ≤ 4000) :
    Calls Tryd.prog 46 #[.slice a n c] w fun e w' => ∃ a' n' c', e = .returned (.tuple #[.slice a' n' c', .int .i64 0]) ∧ Num w' a' n' c' (limbs (valL l)) ∧ Below w.heap.size w w' := by
  obtain ⟨rfl, h1⟩ := h1
  have e1 := len_of h1.2.2.1
  refine (norm_any a c l w h1 (by omega)).mono ?_
  rintro e w' ⟨a', c', rfl, h, hb⟩
  exact ⟨a', _, c', rfl, ⟨rfl, h⟩, hb⟩
theorem cmp_n (h1 : Num w a n c l) (h2 : Num w b m d k) (hl : l.length + k.length ≤ 4000) :
    Calls Tryd.prog 45 #[.slice a n c, .slice b m d] w fun e w' => e = .returned (.tuple #[.int .i64 (cmpN (valL l) (valL k)), .int .i64 0]) ∧ Below w.heap.size w w' := by
  obtain ⟨rfl, h1⟩ := h1
  obtain ⟨rfl, h2⟩ := h2
  have e1 := len_of h1.2.2.1
  have e2 := len_of h2.2.2.1
  exact Cmp_any a b c d l k w h1 h2 (by omega) (by omega)
theorem bits_n (h1 : Num w a n c l) (hl : l.length ≤ 4000) :
    Calls Tryd.prog 39 #[.slice a n c] w fun e w' => e = .returned (.tuple #[.int .i64 (lenN (valL l) : Int), .int .i64 0]) ∧ Below w.heap.size w w' := by
  obtain ⟨rfl, h1⟩ := h1
  have e1 := len_of h1.2.2.1
  exact Bits_any a c l w h1 (by omega)
theorem zeros_n (hT : Tab w) (h1 : Num w a n c l) (hl : l.length ≤ 4000) :
    Calls Tryd.prog 40 #[.slice a n c] w fun e w' => e = .returned (.tuple #[.int .i64 (zerosN (valL l) : Int), .int .i64 0]) ∧ Below w.heap.size w w' := by
  obtain ⟨rfl, h1⟩ := h1
  have e1 := len_of h1.2.2.1
  exact Zeros_any a c l w h1 (by omega) hT
theorem text_n (h1 : Num w a n c l) (hl : l.length ≤ 1000) :
    Calls Tryd.prog 31 #[.slice a n c] w fun e w' => e = .returned (.tuple #[.string ⟨(textN (valL l)).toArray⟩, .int .i64 0]) ∧ Below w.heap.size w w' := by
  obtain ⟨rfl, h1⟩ := h1
  have e1 := len_of h1.2.2.1
  exact Text_any a c l w h1 (by omega)
theorem read_n (s : ByteArray) (hs : s.size ≤ 1200) :
    Calls Tryd.prog 32 #[.string s] w fun e w' => ∃ a' n' c', e = .returned (.tuple #[.slice a' n' c', .int .i64 (readEN s.data.toList)]) ∧ Num w' a' n' c' (limbs (readVN s.data.toList)) ∧ Below w.heap.size w w' := by
  refine (Read_any s w hs).mono ?_
  rintro e w' ⟨a', c', rfl, h, hb⟩
  exact ⟨a', _, c', rfl, ⟨rfl, h⟩, hb⟩
/-- What an own row is, as a number. -/
theorem own_num {w' : World} {B : Nat} {v : Value} {l : List Nat} (h : OwnL w' B v l) (hl : Limbs l) : ∃ a n c, v = .slice a n c ∧ Num w' a n c l := by
  obtain ⟨a, c, rfl⟩ := OwnL.shape h
  exact ⟨a, _, c, rfl, rfl, OwnL.arr' h hl⟩
theorem radd_n (X : Nat) (h1 : Num w a n c l) (h2 : Num w b m d k) (hX : valL l + valL k = X) (hl : l.length + k.length ≤ 4000) :
    Calls Tryd.prog 19 #[.slice a n c, .slice b m d] w fun e w' => ∃ a' n' c', e = .returned (.slice a' n' c') ∧ Num w' a' n' c' (limbs X) ∧ Below w.heap.size w w' := by
  obtain ⟨rfl, h1⟩ := h1
  obtain ⟨rfl, h2⟩ := h2
  refine (radd_any a b c d l k w h1 h2 (by omega) (by omega)).mono ?_
  rintro e w' ⟨v, rfl, h, hb⟩
  rw [hX] at h
  obtain ⟨a', n', c', rfl, hn⟩ := own_num h (limbs_limbs X)
  exact ⟨a', n', c', rfl, hn, hb⟩
theorem rmul_n (X : Nat) (h1 : Num w a n c l) (h2 : Num w b m d k) (hX : valL l * valL k = X) (hl : l.length + k.length ≤ 4000) :
    Calls Tryd.prog 25 #[.slice a n c, .slice b m d] w fun e w' => ∃ a' n' c', e = .returned (.slice a' n' c') ∧ Num w' a' n' c' (limbs X) ∧ Below w.heap.size w w' := by
  obtain ⟨rfl, h1⟩ := h1
  obtain ⟨rfl, h2⟩ := h2
  refine (rmul_any a b c d l k w h1 h2 (by omega) (by omega)).mono ?_
  rintro e w' ⟨v, rfl, h, hb⟩
  rw [hX] at h
  obtain ⟨a', n', c', rfl, hn⟩ := own_num h (limbs_limbs X)
  exact ⟨a', n', c', rfl, hn, hb⟩
theorem rsub_n (X : Nat) (h1 : Num w a n c l) (h2 : Num w b m d k) (hX : valL l = valL k + X) (hl : l.length + k.length ≤ 4000) :
    Calls Tryd.prog 23 #[.slice a n c, .slice b m d] w fun e w' => ∃ a' n' c', e = .returned (.slice a' n' c') ∧ Num w' a' n' c' (limbs X) ∧ Below w.heap.size w w' := by
  obtain ⟨rfl, h1⟩ := h1
  obtain ⟨rfl, h2⟩ := h2
  refine (rsub_any a b c d l k w h1 h2 (by omega) (by omega) (by omega)).mono ?_
  rintro e w' ⟨v, rfl, h, hb⟩
  rw [show valL l - valL k = X by omega] at h
  obtain ⟨a', n', c', rfl, hn⟩ := own_num h (limbs_limbs X)
  exact ⟨a', n', c', rfl, hn, hb⟩
theorem rnorm_n (h1 : Num w a n c l) (hl : l.length ≤ 4000) :
    Calls Tryd.prog 27 #[.slice a n c] w fun e w' => ∃ a' n' c', e = .returned (.slice a' n' c') ∧ Num w' a' n' c' (limbs (valL l)) ∧ Below w.heap.size w w' := by
  obtain ⟨rfl, h1⟩ := h1
  refine (rnorm_any a c l w h1 (by omega)).mono ?_
  rintro e w' ⟨v, rfl, h, hb⟩
  obtain ⟨a', n', c', rfl, hn⟩ := own_num h (limbs_limbs _)
  exact ⟨a', n', c', rfl, hn, hb⟩
theorem rcmp_n (h1 : Num w a n c l) (h2 : Num w b m d k) (hl : l.length + k.length ≤ 4000) :
    Calls Tryd.prog 22 #[.slice a n c, .slice b m d] w fun e w' => e = .returned (.int .i64 (cmpN (valL l) (valL k))) ∧ Below w.heap.size w w' := by
  obtain ⟨rfl, h1⟩ := h1
  obtain ⟨rfl, h2⟩ := h2
  exact rcmp_any a b c d l k w h1 h2 (by omega) (by omega)
theorem same_n (h1 : Num w a n c l) (h2 : Num w b m d k) (he : l = k) (hl : l.length ≤ 10000) :
    Calls Tryd.prog 18 #[.slice a n c, .slice b m d] w fun e w' => e = .returned (.bool true) ∧ Below w.heap.size w w' := by
  obtain ⟨rfl, h1⟩ := h1
  obtain ⟨rfl, h2⟩ := h2
  refine (same_any a b c d l k w h1 h2 (by omega)).mono ?_
  rintro e w' ⟨bl, rfl, h, hb⟩
  obtain rfl : bl = true := h.2 he
  exact ⟨rfl, hb⟩
theorem rshl_n (X i : Nat) (h1 : Num w a n c l) (hX : valL l * 2 ^ i = X) (hl : l.length ≤ 4000) (hi : i ≤ 500000) :
    Calls Tryd.prog 37 #[.slice a n c, .int .i64 (i : Int)] w fun e w' => ∃ a' n' c', e = .returned (.slice a' n' c') ∧ Num w' a' n' c' (limbs X) ∧ Below w.heap.size w w' := by
  obtain ⟨rfl, h1⟩ := h1
  refine (rshl_any a c i l w h1 (by omega) hi).mono ?_
  rintro e w' ⟨v, rfl, h, hb⟩
  rw [hX] at h
  obtain ⟨a', n', c', rfl, hn⟩ := own_num h (limbs_limbs X)
  exact ⟨a', n', c', rfl, hn, hb⟩
theorem rshr_n (X i : Nat) (h1 : Num w a n c l) (hX : valL l / 2 ^ i = X) (hl : l.length ≤ 4000) (hi : i ≤ 9223372036854775807) :
    Calls Tryd.prog 30 #[.slice a n c, .int .i64 (i : Int)] w fun e w' => ∃ a' n' c', e = .returned (.tuple #[.slice a' n' c', .bool (decide (valL l % 2 ^ i ≠ 0))]) ∧ Num w' a' n' c' (limbs X) ∧ Below w.heap.size w w' := by
  obtain ⟨rfl, h1⟩ := h1
  refine (rshr_any a c i l w h1 (by omega) hi).mono ?_
  rintro e w' ⟨v, rfl, h, hb⟩
  rw [hX] at h
  obtain ⟨a', n', c', rfl, hn⟩ := own_num h (limbs_limbs X)
  exact ⟨a', n', c', rfl, hn, hb⟩
theorem rpow2_n (i : Nat) (hi : i ≤ 262143) :
    Calls Tryd.prog 38 #[.int .i64 (i : Int)] w fun e w' => ∃ a' n' c', e = .returned (.slice a' n' c') ∧ Num w' a' n' c' (limbs (2 ^ i)) ∧ Below w.heap.size w w' := by
  refine (rpow2_any i w (by omega)).mono ?_
  rintro e w' ⟨v, l, rfl, h, hv, hl, hlen, hb⟩
  obtain ⟨a', n', c', rfl, hn⟩ := own_num h hl
  have e1 : limbs (2 ^ i) = l := by
    rw [← hv]
    have h1 : 18446744073709551616 ^ (i / 64) ≤ valL l := by
      rw [hv, powB64]
      exact Nat.pow_le_pow_right (by decide) (by omega)
    apply limbs_valL hl
    right
    intro h0
    have := valL_take_succ l (i / 64) (by omega)
    rw [List.take_of_length_le (by omega)] at this
    rw [show l.length - 1 = i / 64 by omega] at h0
    rw [h0, Nat.mul_zero, Nat.add_zero] at this
    have h2 := valL_lt (hl.take (i / 64))
    rw [List.length_take, Nat.min_eq_left (by omega)] at h2
    omega
  rw [e1]
  exact ⟨a', n', c', rfl, hn, hb⟩
theorem pow2_n (i : Nat) (hi : i ≤ 262143) :
    Calls Tryd.prog 36 #[.int .i64 (i : Int)] w fun e w' => ∃ a' n' c', e = .returned (.tuple #[.slice a' n' c', .int .i64 0]) ∧ Num w' a' n' c' (limbs (2 ^ i)) ∧ Below w.heap.size w w' := by
  refine (Pow2_any i w (by omega)).mono ?_
  rintro e w' ⟨v, x, rfl, h, hb⟩
  have hlX : (limbs (2 ^ i)).length ≤ i / 64 + 1 := by
    apply length_limbs_le
    rw [powB64]
    exact Nat.pow_lt_pow_right (by decide) (by omega)
  obtain ⟨rfl, a', c', rfl, h'⟩ := h.1 (by omega)
  exact ⟨a', _, c', rfl, ⟨rfl, h'⟩, hb⟩
theorem rbits_n (h1 : Num w a n c l) (hl : l.length ≤ 4000) :
    Calls Tryd.prog 41 #[.slice a n c] w fun e w' => e = .returned (.int .i64 (lenN (valL l) : Int)) ∧ Below w.heap.size w w' := by
  obtain ⟨rfl, h1⟩ := h1
  exact rbits_any a c l w h1 (by omega)
theorem rzeros_n (h1 : Num w a n c l) (hl : l.length ≤ 4000) :
    Calls Tryd.prog 42 #[.slice a n c] w fun e w' => e = .returned (.int .i64 (zerosN (valL l) : Int)) ∧ Below w.heap.size w w' := by
  obtain ⟨rfl, h1⟩ := h1
  exact rzeros_any a c l w h1 (by omega)
theorem rbit_n (i : Int) (h1 : Num w a n c l) (hi : i ≤ 9223372036854775807) :
    Calls Tryd.prog 44 #[.slice a n c, .int .i64 i] w fun e w' => e = .returned (.bool (bitB (valL l) i)) ∧ w = w' := by
  obtain ⟨rfl, h1⟩ := h1
  exact rBit_any a c i l w h1 hi
theorem bit_n (i : Int) (h1 : Num w a n c l) (hi : i ≤ 9223372036854775807) :
    Calls Tryd.prog 43 #[.slice a n c, .int .i64 i] w fun e w' => e = .returned (.bool (bitB (valL l) i)) ∧ w = w' := by
  obtain ⟨rfl, h1⟩ := h1
  exact Bit_any a c i l w h1 hi
theorem rtext_n (h1 : Num w a n c l) (hl : l.length ≤ 1000) :
    Calls Tryd.prog 34 #[.slice a n c] w fun e w' => e = .returned (.string ⟨(textN (valL l)).toArray⟩) ∧ Below w.heap.size w w' := by
  obtain ⟨rfl, h1⟩ := h1
  exact rtext_any a c l w h1 hl
theorem rread_n (s : ByteArray) (hs : s.size ≤ 1200) :
    Calls Tryd.prog 33 #[.string s] w fun e w' => ∃ a' n' c', e = .returned (.tuple #[.slice a' n' c', .int .i64 (readEN s.data.toList)]) ∧ Num w' a' n' c' (limbs (readVN s.data.toList)) ∧ Below w.heap.size w w' := by
  refine (rread02_any s w hs).mono ?_
  rintro e w' ⟨v, rfl, h, hb⟩
  obtain ⟨a', n', c', rfl, hn⟩ := own_num h (limbs_limbs _)
  exact ⟨a', n', c', rfl, hn, hb⟩
theorem num_any (e : Int) (w : World) : Calls Tryd.prog 20 #[.int .i64 e] w fun x w' => x = .returned (.int .i64 e) ∧ w = w' := by
  go_enter Tryd.func20, Tryd.ntmps20
  go_wp2_with fail
  go_ret
  exact ⟨rfl, rfl⟩
theorem long_any (a : Option Addr) (n c : Nat) (w : World) (hn : n ≤ 9223372036854775807) : Calls Tryd.prog 15 #[.slice a n c] w fun x w' => x = .returned (.bool (decide ((60 : Int) < (n : Int)))) ∧ w = w' := by
  go_enter Tryd.func15, Tryd.ntmps15
  go_wp2_with fail
  go_ret
  exact ⟨rfl, rfl⟩
theorem is_n (h1 : Num w a n c l) (h2 : Num w b m d k) (he : l = k) (hl : k.length ≤ 10000) :
    Calls Tryd.prog 48 #[.slice a n c, .int .i64 0, .slice b m d] w fun e w' => e = .returned (.bool true) ∧ Below w.heap.size w w' := by
  have hs := same_n h1 h2 he (by rw [he]; exact hl)
  have hN := num_any 0 w
  clear h1 h2
  go_enter Tryd.func48, Tryd.ntmps48
  go_wp2_with fail
  refine hN.mono ?_
  rintro e w' ⟨rfl, rfl⟩
  go_wp2_with fail
  refine hs.mono ?_
  rintro e w' ⟨rfl, hb⟩
  go_wp2_with fail
  go_ret
  exact ⟨rfl, hb⟩
end
end Go.Proofs.YtjfjkabmpiebpaaDoor
