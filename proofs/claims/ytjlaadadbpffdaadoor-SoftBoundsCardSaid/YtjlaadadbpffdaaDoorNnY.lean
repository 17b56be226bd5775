/-
  NatY, NatZ, NatAa, NatBy: as one text.
-/
import Derived.Test.YtjlaadadbpffdaaDoorNnU
set_option linter.unusedSimpArgs false
set_option linter.unusedVariables false
namespace Go.Plumb
theorem lenN_half (t : Nat) (h : t ≠ 0) : lenN t = lenN (t / 2) + 1 := by
  have h1 := lt_lenN (t / 2)
  by_cases h0 : t / 2 = 0
  · have : t = 1 := by omega
    subst this; rfl
  · have h2 := lenN_ge (t / 2) h0
    refine lenN_eq ?_ ?_
    · have e : lenN (t / 2) ≠ 0 := by intro e; rw [e] at h1; simp at h1; exact h0 (by omega)
      obtain ⟨j, hj⟩ : ∃ j, lenN (t / 2) = j + 1 := ⟨lenN (t / 2) - 1, by omega⟩
      rw [hj, Nat.add_sub_cancel] at h2
      rw [hj, Nat.pow_succ]; omega
    · rw [Nat.pow_succ]; omega
theorem zeros_bits (A i : Nat) (h : ∀ j, j < i → A.testBit j = false) (h1 : A.testBit i = true) : zerosN A = i := by
  refine zerosN_eq A i ?_ ?_
  · apply Nat.eq_of_testBit_eq
    intro j
    rw [Nat.testBit_mod_two_pow, Nat.zero_testBit]
    by_cases hj : j < i
    · simp [h j hj]
    · simp [hj]
  · rw [Nat.testBit_eq_decide_div_mod_eq] at h1
    simpa using h1
theorem bits_none (A : Nat) (h : ∀ j, j < lenN A → A.testBit j = false) : A = 0 := by
  apply Nat.eq_of_testBit_eq
  intro j
  rw [Nat.zero_testBit]
  by_cases hj : j < lenN A
  · exact h j hj
  · exact Nat.testBit_lt_two_pow (Nat.lt_of_lt_of_le (lt_lenN A) (Nat.pow_le_pow_right (by decide) (by omega)))
end Go.Plumb
namespace Go.Proofs.YtjlaadadbpffdaaDoor
open Go.RowKit Go.Plumb

theorem bit_mod (x k : Nat) : (((x : Int) / 2 ^ k).tmod 2 == 1) = x.testBit k := by
  have e : (x : Int) / 2 ^ k = ((x / 2 ^ k : Nat) : Int) := by simp
  rw [e, Nat.testBit_eq_decide_div_mod_eq]
  generalize x / 2 ^ k = y
  rw [Int.tmod_eq_emod_of_nonneg (by omega)]
  by_cases h1 : y % 2 = 1
  · rw [h1]; simp; omega
  · simp [h1]; omega
theorem World.setCell_alloc_at' (w : World) (cs : Array Value) (n : Nat) {v : Value} {t : TypeId} : (w.alloc (.cells cs t)).setCell ⟨w.heap.size, n, none⟩ v = w.alloc (.cells (cs.setIfInBounds n v) t) := World.setCell_alloc_at _ _ _ _ _ rfl
end Go.Proofs.YtjlaadadbpffdaaDoor

namespace Go.Plumb
theorem mod_step (A i : Nat) : decide (A % 2 ^ (i + 1) ≠ 0) = (decide (A % 2 ^ i ≠ 0) || A.testBit i) := by
  rw [Nat.pow_succ, Nat.mod_mul, Nat.testBit_eq_decide_div_mod_eq]
  have hp := Nat.two_pow_pos i
  by_cases h0 : A % 2 ^ i = 0
  · rw [h0]
    by_cases h1 : A / 2 ^ i % 2 = 1
    · rw [h1]; simp
    · have : A / 2 ^ i % 2 = 0 := by omega
      rw [this]; simp
  · simp only [ne_eq, h0, not_false_eq_true, decide_true, Bool.true_or, decide_eq_true_eq]
    omega
theorem div_mod_step (A k j : Nat) : A / 2 ^ k % 2 ^ (j + 1) = A / 2 ^ k % 2 ^ j + 2 ^ j * (if A.testBit (k + j) then 1 else 0) := by
  rw [Nat.pow_succ, Nat.mod_mul, Nat.testBit_eq_decide_div_mod_eq, Nat.pow_add, Nat.div_div_eq_div_mul]
  congr 1
  by_cases h1 : A / (2 ^ k * 2 ^ j) % 2 = 1
  · simp [h1]
  · have : A / (2 ^ k * 2 ^ j) % 2 = 0 := by omega
    rw [this]; simp
theorem limb_lt (lo : List Nat) (j : Nat) (h : valL lo < 2 ^ j) (hd : j / 64 < lo.length) : lo.getD (j / 64) 0 < 2 ^ (j % 64) := by
  have h1 := valL_split lo (j / 64) (by omega)
  rw [valL_drop lo _ hd] at h1
  have h2 := pow64 j
  apply Nat.lt_of_not_le
  intro hle
  have h3 := Nat.mul_le_mul_left (18446744073709551616 ^ (j / 64)) hle
  rw [h2] at h3
  rw [Nat.mul_add] at h1
  omega
end Go.Plumb
namespace Go.Proofs.YtjlaadadbpffdaaDoor
open Go.RowKit Go.Plumb

end Go.Proofs.YtjlaadadbpffdaaDoor

namespace Go.Plumb
theorem less_step (ds qs : List Nat) (k i x rest : Nat) (hk : k ≤ ds.length) (hi : k = i + 1) (hq : qs.length = ds.length - k) (hx : ds.getD i 0 = x) (hv : valH (ds.drop k) = 10 * valH qs + rest) :
    (ds.take k ++ qs).set i ((rest * 4294967296 + x) / 10) = ds.take i ++ ((rest * 4294967296 + x) / 10 :: qs) ∧ valH (ds.drop i) = 10 * valH ((rest * 4294967296 + x) / 10 :: qs) + (rest * 4294967296 + x) % 10 := by
  subst hi
  have hlt : i < ds.length := by omega
  have hxi : ds[i] = x := by rw [← hx]; simp [List.getD, hlt]
  constructor
  · rw [List.take_succ_eq_append_getElem hlt, List.append_assoc, List.set_append_right _ _ (by simp; omega)]
    simp [List.length_take, Nat.min_eq_left (Nat.le_of_lt hlt)]
  · rw [List.drop_eq_getElem_cons hlt, hxi]
    simp only [valH, hv]
    omega
end Go.Plumb
namespace Go.Proofs.YtjlaadadbpffdaaDoor
open Go.RowKit Go.Plumb

end Go.Proofs.YtjlaadadbpffdaaDoor

namespace Go.Plumb
def byteV (b : UInt8) : Value := .int .u8 (b.toNat : Int)
def digB (r : Nat) : UInt8 := UInt8.ofNat (48 + r)
/-- The decimal digits, lowest first. -/
def digs (n : Nat) : List UInt8 := if h : n = 0 then [] else digB (n % 10) :: digs (n / 10)
termination_by n
decreasing_by omega
theorem digs_zero : digs 0 = [] := by unfold digs; simp
theorem digs_pos {n : Nat} (h : n ≠ 0) : digs n = digB (n % 10) :: digs (n / 10) := by
  rw [digs]; simp [h]
theorem digs_length (m : Nat) : ∀ n, n < 10 ^ m → (digs n).length ≤ m := by
  induction m with
  | zero => intro n h; have : n = 0 := by simp at h; omega
            subst this; rw [digs_zero]; simp
  | succ m ih =>
    intro n h
    by_cases hn : n = 0
    · subst hn; rw [digs_zero]; simp
    · rw [digs_pos hn, List.length_cons]
      have := ih (n / 10) (by rw [Nat.pow_succ] at h; omega)
      omega
theorem digB_toNat {r : Nat} (h : r < 10) : (digB r).toNat = 48 + r := by
  unfold digB
  rw [UInt8.toNat_ofNat']
  omega
theorem byteV_digB {r : Nat} (h : r < 10) : byteV (digB r) = .int .u8 (48 + (r : Int)) := by
  unfold byteV; rw [digB_toNat h]; simp
theorem ten_pow (k : Nat) : (18446744073709551616 : Nat) ^ k ≤ 10 ^ (20 * k) := by
  rw [Nat.pow_mul]
  exact Nat.pow_le_pow_left (by decide) k
theorem digs_valL {l : List Nat} (h : Limbs l) : (digs (valL l)).length ≤ 20 * l.length :=
  digs_length _ _ (Nat.lt_of_lt_of_le (valL_lt h) (ten_pow _))
/-- The text of a number. -/
def textN (n : Nat) : List UInt8 := if n = 0 then [48] else (digs n).reverse
/-- The first i and the last i places turned. -/
def turnedAt (bs cs : List UInt8) (i : Nat) : Prop := cs.length = bs.length ∧ ∀ j, j < bs.length → cs[j]? = if j < i ∨ bs.length - i ≤ j then bs[bs.length - 1 - j]? else bs[j]?
theorem turned_start (bs : List UInt8) : turnedAt bs bs 0 := ⟨rfl, fun j hj => by simp; omega⟩
theorem turned_end {bs cs : List UInt8} {i : Nat} (h : turnedAt bs cs i) (hi : i = bs.length / 2) : cs = bs.reverse := by
  apply List.ext_getElem? 
  intro j
  by_cases hj : j < bs.length
  · rw [h.2 j hj, List.getElem?_reverse hj]
    split
    · rfl
    · congr 1; omega
  · rw [List.getElem?_eq_none (by rw [h.1]; omega), List.getElem?_eq_none (by simp; omega)]
theorem turned_step {bs cs : List UInt8} {i : Nat} (h : turnedAt bs cs i) (hi : i < bs.length / 2) :
    turnedAt bs ((cs.set i (cs.getD (bs.length - 1 - i) 0)).set (bs.length - 1 - i) (cs.getD i 0)) (i + 1) := by
  refine ⟨by simp [h.1], fun j hj => ?_⟩
  have hn := h.1
  have e1 : cs.getD i 0 = bs.getD i 0 := by
    have := h.2 i (by omega)
    rw [if_neg (by omega)] at this
    simp only [List.getD, this]
  have e2 : cs.getD (bs.length - 1 - i) 0 = bs.getD (bs.length - 1 - i) 0 := by
    have := h.2 (bs.length - 1 - i) (by omega)
    rw [if_neg (by omega)] at this
    simp only [List.getD, this]
  rw [e1, e2]
  by_cases h1 : j = bs.length - 1 - i
  · subst h1
    rw [List.getElem?_set_self (by simp; omega), if_pos (by omega), show bs.length - 1 - (bs.length - 1 - i) = i by omega, List.getElem?_eq_getElem (show i < bs.length by omega)]
    simp [List.getD, show i < bs.length by omega]
  · rw [List.getElem?_set_ne (by omega)]
    by_cases h2 : j = i
    · subst h2
      rw [List.getElem?_set_self (by omega), if_pos (by omega), List.getElem?_eq_getElem (show bs.length - 1 - j < bs.length by omega)]
      simp [List.getD, show bs.length - 1 - j < bs.length by omega]
    · rw [List.getElem?_set_ne (by omega), h.2 j hj]
      by_cases h3 : j < i ∨ bs.length - i ≤ j
      · rw [if_pos h3, if_pos (by omega)]
      · rw [if_neg h3, if_neg (by omega)]
end Go.Plumb
namespace Go.Proofs.YtjlaadadbpffdaaDoor
open Go.RowKit Go.Plumb

theorem info_u8 : (Tryd.prog.info? 5).map (fun i => (i.zero, i.size, i.bytes)) = some (some (.int .u8 0), 1, 1) := by kernel_rfl
def OwnB (w : World) (B : Nat) (v : Value) (l : List UInt8) : Prop := w.ownsRow B 5 1 v l.length (l.map byteV)
theorem OwnB.later {w w' : World} {B : Nat} {v : Value} {l : List UInt8} (h : OwnB w B v l) (hb : Below w.heap.size w w') : OwnB w' B v l := by
  obtain ⟨hx, hn | ⟨g, cap, cur, e, hg, hh, rest⟩⟩ := h
  · exact ⟨hx, .inl hn⟩
  · refine ⟨hx, .inr ⟨g, cap, cur, e, hg, ?_, rest⟩⟩
    rw [hb.block g (Array.getElem?_eq_some_iff.1 hh).1]
    exact hh
theorem OwnB.shape {w : World} {B : Nat} {v : Value} {l : List UInt8} (h : OwnB w B v l) : ∃ a c, v = .slice a l.length c := by
  obtain ⟨_, ⟨rfl, h1⟩ | ⟨g, cap, cur, rfl, _⟩⟩ := h
  · exact ⟨none, 0, by rw [h1]⟩
  · exact ⟨_, _, rfl⟩
theorem OwnB.pos {w : World} {B : Nat} {v : Value} {l : List UInt8} (h : OwnB w B v l) (h0 : 0 < l.length) : ∃ g cap, v = .slice (some ⟨g, 0, none⟩) l.length cap ∧ B ≤ g ∧ g < w.heap.size ∧ cap ≤ maxLen ∧ l.length ≤ cap := by
  obtain ⟨_, ⟨rfl, h1⟩ | ⟨g, cap, cur, rfl, hg, hh, hn, hcap, hsz, htake⟩⟩ := h
  · omega
  · exact ⟨g, cap, rfl, hg, (Array.getElem?_eq_some_iff.1 hh).1, hcap, hn⟩
theorem OwnB.len {w : World} {B : Nat} {a : Option Addr} {n c : Nat} {l : List UInt8} (h : OwnB w B (.slice a n c) l) : n = l.length := by
  obtain ⟨_, ⟨e, h1⟩ | ⟨g, cap, cur, e, _⟩⟩ := h
  · simp only [Value.slice.injEq] at e; omega
  · simp only [Value.slice.injEq] at e; exact e.2.1
theorem OwnB.cell {w : World} {B : Nat} {g n c : Nat} {l : List UInt8} (h : OwnB w B (.slice (some ⟨g, 0, none⟩) n c) l) (j : Nat) (x : UInt8) (hj : l[j]? = some x) : w.cell? ⟨g, j, none⟩ = some (byteV x) := by
  have hn := (List.getElem?_eq_some_iff.1 hj).1
  obtain rfl := h.len
  unfold OwnB at h
  have h2 := World.ownsRow.cellAt h j (by omega)
  rw [h2, List.getElem?_map, hj]; rfl
theorem OwnB.thaw {w : World} {B : Nat} {g n c : Nat} {l : List UInt8} (h : OwnB w B (.slice (some ⟨g, 0, none⟩) n c) l) (j : Nat) : w.frozen? ⟨g, j, none⟩ = false := by
  obtain rfl := h.len
  unfold OwnB at h
  exact World.ownsRow.frozenAt h j
theorem OwnB.store {w : World} {B : Nat} {g n c : Nat} {l : List UInt8} (h : OwnB w B (.slice (some ⟨g, 0, none⟩) n c) l) (j : Nat) (x : UInt8) (v : Value) (hv : v = byteV x) : OwnB (w.setCell ⟨g, j, none⟩ v) B (.slice (some ⟨g, 0, none⟩) n c) (l.set j x) := by
  subst hv
  obtain rfl := h.len
  unfold OwnB at h
  have := (World.ownsRow.stored h j (byteV x)).1
  rw [← List.map_set] at this
  unfold OwnB
  rw [List.length_set]
  exact this
theorem ownB_snoc {w : World} {B : Nat} {v : Value} {l : List UInt8} {x : UInt8} (h : w.ownsRow B 5 1 v (l.length + 1) (l.map byteV ++ [byteV x])) : OwnB w B v (l ++ [x]) := by
  unfold OwnB
  rw [List.length_append, List.map_append]
  exact h
theorem belowB_snoc {w0 w w9 : World} {v : Value} {l : List UInt8} {o : Obj} (hB : Below w0.heap.size w0 w) (h : OwnB w w0.heap.size v l) (hg : (w.alloc o).grownBy w9 v.ownBlock) : Below w0.heap.size w0 w9 := by
  refine (hB.alloc hB.size _).grown hg (by have := hB.size; simp; omega) ?_
  intro q hq
  exact (World.ownsRow.lt (show w.ownsRow w0.heap.size 5 1 v l.length (l.map byteV) from h) q hq).1
end Go.Proofs.YtjlaadadbpffdaaDoor
