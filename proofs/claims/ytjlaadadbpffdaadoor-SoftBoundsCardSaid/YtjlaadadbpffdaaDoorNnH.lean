/-
  NatBh, NatBi, NatBl: as one text.
-/
import Derived.Test.YtjlaadadbpffdaaDoorNnB
import Derived.Deep.Cut
set_option linter.unusedSimpArgs false
set_option linter.unusedVariables false
namespace Go.Plumb
theorem chunk_step (ds qs : List Nat) (k i x rest : Nat) (hk : k ≤ ds.length) (hi : k = i + 1) (hq : qs.length = ds.length - k) (hx : ds.getD i 0 = x) (hv : valL (ds.drop k) = 10000000000000000000 * valL qs + rest) :
    (ds.take k ++ qs).set i ((rest * 18446744073709551616 + x) / 10000000000000000000) = ds.take i ++ ((rest * 18446744073709551616 + x) / 10000000000000000000 :: qs) ∧ valL (ds.drop i) = 10000000000000000000 * valL ((rest * 18446744073709551616 + x) / 10000000000000000000 :: qs) + (rest * 18446744073709551616 + x) % 10000000000000000000 := by
  subst hi
  have hlt : i < ds.length := by omega
  have hxi : ds[i] = x := by rw [← hx]; simp [List.getD, hlt]
  constructor
  · rw [List.take_succ_eq_append_getElem hlt, List.append_assoc, List.set_append_right _ _ (by simp; omega)]
    simp [List.length_take, Nat.min_eq_left (Nat.le_of_lt hlt)]
  · rw [List.drop_eq_getElem_cons hlt, hxi]
    simp only [valL, hv]
    omega
end Go.Plumb
namespace Go.Proofs.YtjlaadadbpffdaaDoor
open Go.RowKit Go.Plumb

theorem OwnL.keptCells {w w' : World} {B K n c : Nat} {l : List Nat} (h : OwnL w B (.slice (some ⟨K, 0, none⟩) n c) l) (hk : KeptCells K w w') : OwnL w' B (.slice (some ⟨K, 0, none⟩) n c) l := by
  obtain ⟨hx, ⟨hn, _⟩ | ⟨g, cap, cur, e, hg, hh, rest⟩⟩ := h
  · simp at hn
  · simp only [Value.slice.injEq, Option.some.injEq, Addr.mk.injEq] at e
    obtain ⟨⟨rfl, _⟩, rfl, rfl⟩ := e
    exact ⟨hx, .inr ⟨_, _, cur, rfl, hg, hk.2 _ hh rfl, rest⟩⟩
theorem OwnL.cellsAt {w : World} {B K n c : Nat} {l : List Nat} (h : OwnL w B (.slice (some ⟨K, 0, none⟩) n c) l) : CellsAt 22 K w := by
  obtain ⟨hx, ⟨hn, _⟩ | ⟨g, cap, cur, e, hg, hh, rest⟩⟩ := h
  · simp at hn
  · simp only [Value.slice.injEq, Option.some.injEq, Addr.mk.injEq] at e
    obtain ⟨⟨rfl, _⟩, rfl, rfl⟩ := e
    exact ⟨_, _, hh⟩
end Go.Proofs.YtjlaadadbpffdaaDoor

namespace Go.Proofs.YtjlaadadbpffdaaDoor
open Go.RowKit Go.Plumb

attribute [local go_sem] Oper.semAt_some

def bytesOf (pre : List Nat) : List UInt8 := pre.flatMap (padD 19)
theorem bytesOf_snoc (pre : List Nat) (x : Nat) : bytesOf (pre ++ [x]) = chunkAt (bytesOf pre) x 19 := by
  unfold bytesOf chunkAt; rw [List.flatMap_append]; simp
theorem bytesOf_length (pre : List Nat) : (bytesOf pre).length = 19 * pre.length := by
  induction pre with
  | nil => rfl
  | cons x l ih => unfold bytesOf at *; rw [List.flatMap_cons, List.length_append, padD_length, ih, List.length_cons]; omega
theorem limit_chunks (V : Nat) (M : Nat) (h : (limbs V).length ≤ M) : (chunksN V).length ≤ 20 * M :=
  chunks_length _ _ (Nat.lt_of_lt_of_le (lt_pow_length V) (Nat.le_trans (ten_pow _) (Nat.pow_le_pow_right (by decide) (Nat.mul_le_mul_left _ h))))
theorem kept_append {W w1 : World} {K B : Nat} {tmp : Obj} {v v' : Value} (hne : some K ≠ v.ownBlock) (hBK : B ≠ K) (hK : K < W.heap.size) (hgrow : (W.alloc tmp).grownBy w1 v.ownBlock) : KeptCells K W (w1.setCell ⟨B, 0, none⟩ v') := by
  have h1 : (W.alloc tmp).heap[K]? = W.heap[K]? := Below.heap_alloc W _ _ hK
  have h2 := hgrow.block K (by simp; omega) hne
  have h3 : (w1.setCell ⟨B, 0, none⟩ v').heap[K]? = w1.heap[K]? := Below.heap_setCell _ _ _ K (fun e => hBK e.symm)
  refine ⟨?_, fun o ho _ => by rw [h3, h2, h1]; exact ho⟩
  have a := hgrow.size
  have b := (KeepsWalks.setCell w1 ⟨B, 0, none⟩ v').size
  simp at a
  omega
end Go.Proofs.YtjlaadadbpffdaaDoor

namespace Go.Plumb
open Go.RowKit
/-- The slice a, of n elements, is the list l of limbs. -/
def Num (w : World) (a : Option Addr) (n c : Nat) (l : List Nat) : Prop := n = l.length ∧ Arr w a c l
theorem Num.below {w w' : World} {a : Option Addr} {n c : Nat} {l : List Nat} (h : Num w a n c l) (hb : Below w.heap.size w w') : Num w' a n c l := ⟨h.1, h.2.below hb⟩
theorem Num.limbs {w : World} {a : Option Addr} {n c : Nat} {l : List Nat} (h : Num w a n c l) : Limbs l := h.2.2.2.1
theorem Num.nil (w : World) : Num w none 0 0 [] := ⟨rfl, Arr.nil _ _ _ (by unfold maxLen; omega)⟩
/-- All the numbers that a walk has at hand. -/
def Nums (w : World) : List (Option Addr × Nat × Nat × List Nat) → Prop
  | [] => True
  | x :: L => Num w x.1 x.2.1 x.2.2.1 x.2.2.2 ∧ Nums w L
theorem Nums.below {w w' : World} {L : List (Option Addr × Nat × Nat × List Nat)} (hb : Below w.heap.size w w') : Nums w L → Nums w' L := by
  induction L with
  | nil => intro _; trivial
  | cons x L ih => rintro ⟨h1, h2⟩; exact ⟨h1.below hb, ih h2⟩
theorem Nums.get {w : World} {L : List (Option Addr × Nat × Nat × List Nat)} (h : Nums w L) (i : Nat) (a : Option Addr) (n c : Nat) (l : List Nat) (hi : L[i]? = some (a, n, c, l)) : Num w a n c l := by
  induction L generalizing i with
  | nil => simp at hi
  | cons x L ih =>
    cases i with
    | zero => simp at hi; subst hi; exact h.1
    | succ i => exact ih h.2 i (by simpa using hi)
/-- Where a walk stands: behind w, with its numbers. -/
def At (w wk : World) (L : List (Option Addr × Nat × Nat × List Nat)) : Prop := Below w.heap.size w wk ∧ Nums wk L
theorem At.start (w : World) : At w w [] := ⟨Below.refl _ _, trivial⟩
theorem At.later {w wk w' : World} {L : List (Option Addr × Nat × Nat × List Nat)} (h : At w wk L) (hb : Below wk.heap.size wk w') : At w w' L := ⟨below_step h.1 hb, h.2.below hb⟩
theorem At.call {w wk W w' : World} {L : List (Option Addr × Nat × Nat × List Nat)} (h : At w wk L) (h1 : Below wk.heap.size wk W) (hb : Below W.heap.size W w') : At w w' L := (h.later h1).later hb
theorem At.num {w wk W w' : World} {L : List (Option Addr × Nat × Nat × List Nat)} {a : Option Addr} {n c : Nat} {l : List Nat} (h : At w wk L) (h1 : Below wk.heap.size wk W) (hb : Below W.heap.size W w') (hn : Num w' a n c l) : At w w' ((a, n, c, l) :: L) := ⟨(h.call h1 hb).1, hn, (h.call h1 hb).2⟩
theorem At.get {w wk W : World} {L : List (Option Addr × Nat × Nat × List Nat)} (h : At w wk L) (i : Nat) {a : Option Addr} {n c : Nat} {l : List Nat} (hi : L[i]? = some (a, n, c, l)) (hb : Below wk.heap.size wk W) : Num W a n c l := (h.2.get i a n c l hi).below hb
theorem cell_old {W : World} {p : Addr} {v : Value} (o : Obj) (h : W.cell? p = some v) : (W.alloc o).cell? p = some v := by
  have hl := cell_lt h
  have := ((Below.refl _ W).alloc (Nat.le_refl _) o).cell (p := p) hl
  rw [this]; exact h
theorem num_one {W : World} {g x : Nat} {t : TypeId} (hg : g = W.heap.size) (hx : x < 18446744073709551616) : Num (W.alloc (.cells #[.int .u64 (x : Int)] t)) (some ⟨g, 0, none⟩) 1 1 [x] := by
  subst hg
  refine ⟨rfl, by simp, by unfold maxLen; omega, Limbs.cons hx Limbs.nil, fun j hj => ?_⟩
  have : j = 0 := by simpa using hj
  subst this
  exact ⟨W.heap.size, 0, rfl, World.cell?_alloc_at (hn := rfl) ..⟩
theorem num_two {W : World} {g x y : Nat} {t : TypeId} (hg : g = W.heap.size) (hx : x < 18446744073709551616) (hy : y < 18446744073709551616) : Num (W.alloc (.cells #[.int .u64 (x : Int), .int .u64 (y : Int)] t)) (some ⟨g, 0, none⟩) 2 2 [x, y] := by
  subst hg
  refine ⟨rfl, by simp, by unfold maxLen; omega, Limbs.cons hx (Limbs.cons hy Limbs.nil), fun j hj => ?_⟩
  have : j = 0 ∨ j = 1 := by simp at hj; omega
  rcases this with rfl | rfl
  · exact ⟨W.heap.size, 0, rfl, World.cell?_alloc_at (hn := rfl) ..⟩
  · exact ⟨W.heap.size, 0, rfl, World.cell?_alloc_at (hn := rfl) ..⟩
theorem len_of {l : List Nat} (h : Limbs l) : (Plumb.limbs (valL l)).length ≤ l.length := length_limbs_le _ _ (valL_lt h)
theorem len_add {l k : List Nat} (h : Limbs l) (h' : Limbs k) : (Plumb.limbs (valL l + valL k)).length ≤ l.length + k.length + 1 := by
  apply length_limbs_le
  have h1 := valL_lt h
  have h2 := valL_lt h'
  have p1 : 18446744073709551616 ^ l.length ≤ 18446744073709551616 ^ (l.length + k.length) := Nat.pow_le_pow_right (by decide) (by omega)
  have p2 : 18446744073709551616 ^ k.length ≤ 18446744073709551616 ^ (l.length + k.length) := Nat.pow_le_pow_right (by decide) (by omega)
  rw [Nat.pow_succ]
  omega
theorem len_mul {l k : List Nat} (h : Limbs l) (h' : Limbs k) : (Plumb.limbs (valL l * valL k)).length ≤ l.length + k.length := by
  apply length_limbs_le
  rw [Nat.pow_add]
  have h1 := valL_lt h
  have h2 := valL_lt h'
  exact Nat.mul_lt_mul'' h1 h2
end Go.Plumb
namespace Go.Proofs.YtjlaadadbpffdaaDoor
open Go.RowKit Go.Plumb

section
variable {w : World} {a b : Option Addr} {n c m d : Nat} {l k : List Nat}
theorem add_n (X : Nat) (h1 : Num w a n c l) (h2 : Num w b m d k) (hX : valL l + valL k = X) (hl : l.length + k.length ≤ 4000) :
    Calls Tryd.prog 65 #[.slice a n c, .slice b m d] w fun e w' => ∃ a' n' c', e = .returned (.tuple #[.slice a' n' c', .int .i64 0]) ∧ Num w' a' n' c' (limbs X) ∧ Below w.heap.size w w' := by
  obtain ⟨rfl, h1⟩ := h1
  obtain ⟨rfl, h2⟩ := h2
  have e1 := len_of h1.2.2.1
  have e2 := len_of h2.2.2.1
  have e3 := len_add h1.2.2.1 h2.2.2.1
  refine (Add_ok a b c d l k w h1 h2 (by omega) (by omega) (by omega)).mono ?_
  rintro e w' ⟨a', c', rfl, h, hb⟩
  rw [hX] at h ⊢
  exact ⟨a', _, c', rfl, ⟨rfl, h⟩, hb⟩
theorem mul_n (X : Nat) (h1 : Num w a n c l) (h2 : Num w b m d k) (hX : valL l * valL k = X) (hl : l.length + k.length ≤ 4000) :
    Calls Tryd.prog 69 #[.slice a n c, .slice b m d] w fun e w' => ∃ a' n' c', e = .returned (.tuple #[.slice a' n' c', .int .i64 0]) ∧ Num w' a' n' c' (limbs X) ∧ Below w.heap.size w w' := by
  obtain ⟨rfl, h1⟩ := h1
  obtain ⟨rfl, h2⟩ := h2
  have e1 := len_of h1.2.2.1
  have e2 := len_of h2.2.2.1
  have e3 := len_mul h1.2.2.1 h2.2.2.1
  refine (Mul_ok a b c d l k w h1 h2 (by omega) (by omega) (by omega)).mono ?_
  rintro e w' ⟨a', c', rfl, h, hb⟩
  rw [hX] at h ⊢
  exact ⟨a', _, c', rfl, ⟨rfl, h⟩, hb⟩
theorem sub_n (X : Nat) (h1 : Num w a n c l) (h2 : Num w b m d k) (hX : valL l = valL k + X) (hl : l.length + k.length ≤ 4000) :
    Calls Tryd.prog 67 #[.slice a n c, .slice b m d] w fun e w' => ∃ a' n' c', e = .returned (.tuple #[.slice a' n' c', .int .i64 0]) ∧ Num w' a' n' c' (limbs X) ∧ Below w.heap.size w w' := by
  obtain ⟨rfl, h1⟩ := h1
  obtain ⟨rfl, h2⟩ := h2
  have e1 := len_of h1.2.2.1
  have e2 := len_of h2.2.2.1
  refine (Sub_ok a b c d l k w h1 h2 (by omega) (by omega) (by omega)).mono ?_
  rintro e w' ⟨a', c', rfl, h, hb⟩
  rw [show valL l - valL k = X by omega] at h ⊢
  exact ⟨a', _, c', rfl, ⟨rfl, h⟩, hb⟩
theorem sub_n_less (h1 : Num w a n c l) (h2 : Num w b m d k) (hX : valL l < valL k) (hl : l.length + k.length ≤ 4000) :
    Calls Tryd.prog 67 #[.slice a n c, .slice b m d] w fun e w' => e = .returned (.tuple #[.slice none 0 0, .int .i64 2]) ∧ Below w.heap.size w w' := by
  obtain ⟨rfl, h1⟩ := h1
  obtain ⟨rfl, h2⟩ := h2
  have e1 := len_of h1.2.2.1
  have e2 := len_of h2.2.2.1
  exact Sub_less a b c d l k w h1 h2 (by omega) (by omega) hX
theorem div_n (X Y : Nat) (h1 : Num w a n c l) (h2 : Num w b m d k) (h0 : valL k ≠ 0) (hX : valL l / valL k = X) (hY : valL l % valL k = Y) (hl : l.length + k.length ≤ 4000) :
    Calls Tryd.prog 52 #[.slice a n c, .slice b m d] w fun e w' => ∃ a' n' c' b' m' d', e = .returned (.tuple #[.slice a' n' c', .slice b' m' d', .int .i64 0]) ∧ Num w' a' n' c' (limbs X) ∧ Num w' b' m' d' (limbs Y) ∧ Below w.heap.size w w' := by
  obtain ⟨rfl, h1⟩ := h1
  obtain ⟨rfl, h2⟩ := h2
  have e1 := len_of h1.2.2.1
  have e2 := len_of h2.2.2.1
  refine (Div_ok a b c d l k w h1 h2 (by omega) (by omega) h0).mono ?_
  rintro e w' ⟨a', c', b', d', rfl, h, h', hb⟩
  rw [hX] at h ⊢
  rw [hY] at h' ⊢
  exact ⟨a', _, c', b', _, d', rfl, ⟨rfl, h⟩, ⟨rfl, h'⟩, hb⟩
theorem div_n_zero (h1 : Num w a n c l) (h2 : Num w b m d k) (h0 : valL k = 0) (hl : l.length + k.length ≤ 4000) :
    Calls Tryd.prog 52 #[.slice a n c, .slice b m d] w fun e w' => e = .returned (.tuple #[.slice none 0 0, .slice none 0 0, .int .i64 2]) ∧ Below w.heap.size w w' := by
  obtain ⟨rfl, h1⟩ := h1
  obtain ⟨rfl, h2⟩ := h2
  have e1 := len_of h1.2.2.1
  exact Div_zero a b c d l k w h1 h2 (by omega) h0
theorem sqrt_n (X Y : Nat) (h1 : Num w a n c l) (hX : isqN (valL l) = X) (hY : valL l = X * X + Y) (hl : l.length ≤ 4000) :
    Calls Tryd.prog 54 #[.slice a n c] w fun e w' => ∃ a' n' c' b' m' d', e = .returned (.tuple #[.slice a' n' c', .slice b' m' d', .int .i64 0]) ∧ Num w' a' n' c' (limbs X) ∧ Num w' b' m' d' (limbs Y) ∧ Below w.heap.size w w' := by
  obtain ⟨rfl, h1⟩ := h1
  have e1 := len_of h1.2.2.1
  refine (Sqrt_any a c l w h1 (by omega)).mono ?_
  rintro e w' ⟨a', c', b', d', rfl, h, h', hb⟩
  rw [hX] at h h' ⊢
  rw [show valL l - X * X = Y by omega] at h' ⊢
  exact ⟨a', _, c', b', _, d', rfl, ⟨rfl, h⟩, ⟨rfl, h'⟩, hb⟩
theorem shl_n (X i : Nat) (h1 : Num w a n c l) (hX : valL l * 2 ^ i = X) (hl : l.length ≤ 4000) (hi : i ≤ 9223372036854775807) (hlX : (limbs X).length ≤ 4096) :
    Calls Tryd.prog 51 #[.slice a n c, .int .i64 (i : Int)] w fun e w' => ∃ a' n' c', e = .returned (.tuple #[.slice a' n' c', .int .i64 0]) ∧ Num w' a' n' c' (limbs X) ∧ Below w.heap.size w w' := by
  obtain ⟨rfl, h1⟩ := h1
  have e1 := len_of h1.2.2.1
  refine (Shl_any a c i l w h1 (by omega) hi).mono ?_
  rintro e w' ⟨v, x, rfl, h, hb⟩
  rw [hX] at h
  obtain ⟨rfl, a', c', rfl, h'⟩ := h.1 hlX
  exact ⟨a', _, c', rfl, ⟨rfl, h'⟩, hb⟩
theorem shr_n (X i : Nat) (h1 : Num w a n c l) (hX : valL l / 2 ^ i = X) (hl : l.length ≤ 4000) (hi : i ≤ 9223372036854775807) :
    Calls Tryd.prog 82 #[.slice a n c, .int .i64 (i : Int)] w fun e w' => ∃ a' n' c', e = .returned (.tuple #[.slice a' n' c', .bool (decide (valL l % 2 ^ i ≠ 0)), .int .i64 0]) ∧ Num w' a' n' c' (limbs X) ∧ Below w.heap.size w w' := by
  obtain ⟨rfl, h1⟩ := h1
  have e1 := len_of h1.2.2.1
  refine (Shr_any a c i l w h1 (by omega) hi).mono ?_
  rintro e w' ⟨a', c', rfl, h, hb⟩
  rw [hX] at h ⊢
  exact ⟨a', _, c', rfl, ⟨rfl, h⟩, hb⟩
theorem norm_n (h1 : Num w a n c l) (hl : l.length ≤ 4000) :
    Calls Tryd.prog 76 #[.slice a n c] w fun e w' => ∃ a' n' c', e = .returned (.tuple #[.slice a' n' c', .int .i64 0]) ∧ Num w' a' n' c' (limbs (valL l)) ∧ Below w.heap.size w w' := by
  obtain ⟨rfl, h1⟩ := h1
  have e1 := len_of h1.2.2.1
  refine (norm_any a c l w h1 (by omega)).mono ?_
  rintro e w' ⟨a', c', rfl, h, hb⟩
  exact ⟨a', _, c', rfl, ⟨rfl, h⟩, hb⟩
theorem cmp_n (h1 : Num w a n c l) (h2 : Num w b m d k) (hl : l.length + k.length ≤ 4000) :
    Calls Tryd.prog 66 #[.slice a n c, .slice b m d] w fun e w' => e = .returned (.tuple #[.int .i64 (cmpN (valL l) (valL k)), .int .i64 0]) ∧ Below w.heap.size w w' := by
  obtain ⟨rfl, h1⟩ := h1
  obtain ⟨rfl, h2⟩ := h2
  have e1 := len_of h1.2.2.1
  have e2 := len_of h2.2.2.1
  exact Cmp_any a b c d l k w h1 h2 (by omega) (by omega)
theorem bits_n (h1 : Num w a n c l) (hl : l.length ≤ 4000) :
    Calls Tryd.prog 50 #[.slice a n c] w fun e w' => e = .returned (.tuple #[.int .i64 (lenN (valL l) : Int), .int .i64 0]) ∧ Below w.heap.size w w' := by
  obtain ⟨rfl, h1⟩ := h1
  have e1 := len_of h1.2.2.1
  exact Bits_any a c l w h1 (by omega)
theorem zeros_n (hT : Tab w) (h1 : Num w a n c l) (hl : l.length ≤ 4000) :
    Calls Tryd.prog 103 #[.slice a n c] w fun e w' => e = .returned (.tuple #[.int .i64 (zerosN (valL l) : Int), .int .i64 0]) ∧ Below w.heap.size w w' := by
  obtain ⟨rfl, h1⟩ := h1
  have e1 := len_of h1.2.2.1
  exact Zeros_any a c l w h1 (by omega) hT
/-- What an own row is, as a number. -/
theorem own_num {w' : World} {B : Nat} {v : Value} {l : List Nat} (h : OwnL w' B v l) (hl : Limbs l) : ∃ a n c, v = .slice a n c ∧ Num w' a n c l := by
  obtain ⟨a, c, rfl⟩ := OwnL.shape h
  exact ⟨a, _, c, rfl, rfl, OwnL.arr' h hl⟩
end
end Go.Proofs.YtjlaadadbpffdaaDoor
