/-
  Rows of bytes that a call owns; decimal digits, lowest first.
-/
import Derived.Test.YtjfjkabmpiebpaaDoorNatAa
set_option linter.unusedSimpArgs false
set_option linter.unusedVariables false
namespace Go.Plumb
def byteV (b : UInt8) : Value := .int .u8 (b.toNat : Int)
def digB (r : Nat) : UInt8 := UInt8.ofNat (48 + r)
/-- The decimal digits, lowest first. -/
def digs (n : Nat) : List UInt8 := if h : n = 0 then [] else digB (n % 10) :: digs (n / 10)
termination_by n
decreasing_by omega
theorem digs_zero : digs 0 = [] := by unfold digs; simp
theorem digs_pos {n : Nat} (h : n ≠ 0) : digs n = digB (n % 10) :: digs (n / 10) := by
  rw [digs]; simp [h]
theorem digs_length (m : Nat) : ∀ n, n < 10 ^ m → (digs n).length ≤ m := by
  induction m with
  | zero => intro n h; have : n = 0 := by simp at h; omega
            subst this; rw [digs_zero]; simp
  | succ m ih =>
    intro n h
    by_cases hn : n = 0
    · subst hn; rw [digs_zero]; simp
    · rw [digs_pos hn, List.length_cons]
      have := ih (n / 10) (by rw [Nat.pow_succ] at h; omega)
      omega
theorem digB_toNat {r : Nat} (h : r < 10) : (digB r).toNat = 48 + r := by
  unfold digB
  rw [UInt8.toNat_ofNat']
  omega
theorem byteV_digB {r : Nat} (h : r < 10) : byteV (digB r) = .int .u8 (48 + (r : Int)) := by
  unfold byteV; rw [digB_toNat h]; simp
theorem ten_pow (k : Nat) : (18446744073709551616 : Nat) ^ k ≤ 10 ^ (20 * k) := by
  rw [Nat.pow_mul]
  exact Nat.pow_le_pow_left (by decide) k
theorem digs_valL {l : List Nat} (h : Limbs l) : (digs (valL l)).length ≤ 20 * l.length :=
  digs_length _ _ (Nat.lt_of_lt_of_le (valL_lt h) (ten_pow _))
/-- The text of a number. -/
def textN (n : Nat) : List UInt8 := if n = 0 then [48] else (digs n).reverse
/-- The first i and the last i places turned. -/
def turnedAt (bs cs : List UInt8) (i : Nat) : Prop := cs.length = bs.length ∧ ∀ j, j < bs.length → cs[j]? = if j < i ∨ bs.length - i ≤ j then bs[bs.length - 1 - j]? else bs[j]?
theorem turned_start (bs : List UInt8) : turnedAt bs bs 0 := ⟨rfl, fun j hj => by simp; omega⟩
theorem turned_end {bs cs : List UInt8} {i : Nat} (h : turnedAt bs cs i) (hi : i = bs.length / 2) : cs = bs.reverse := by
  apply List.ext_getElem? 
  intro j
  by_cases hj : j < bs.length
  · rw [h.2 j hj, List.getElem?_reverse hj]
    split
    · rfl
    · congr 1; omega
  · rw [List.getElem?_eq_none (by rw [h.1]; omega), List.getElem?_eq_none (by simp; omega)]
theorem turned_step {bs cs : List UInt8} {i : Nat} (h : turnedAt bs cs i) (hi : i < bs.length / 2) :
    turnedAt bs ((cs.set i (cs.getD (bs.length - 1 - i) 0)).set (bs.length - 1 - i) (cs.getD i 0)) (i + 1) := by
  refine ⟨by simp [h.1], fun j hj => ?_⟩
  have hn := h.1
  have e1 : cs.getD i 0 = bs.getD i 0 := by
    have := h.2 i (by omega)
    rw [if_neg (by omega)] at this
    simp only [List.getD, this]
  have e2 : cs.getD (bs.length - 1 - i) 0 = bs.getD (bs.length - 1 - i) 0 := by
    have := h.2 (bs.length - 1 - i) (by omega)
    rw [if_neg (by omega)] at this
    simp only [List.getD, this]
  rw [e1, e2]
  by_cases h1 : j = bs.length - 1 - i
  · subst h1
    rw [List.getElem?_set_self (by simp; omega), if_pos (by omega), show bs.length - 1 - (bs.length - 1 - i) = i by omega, List.getElem?_eq_getElem (show i < bs.length by omega)]
    simp [List.getD, show i < bs.length by omega]
  · rw [List.getElem?_set_ne (by omega)]
    by_cases h2 : j = i
    · subst h2
      rw [List.getElem?_set_self (by omega), if_pos (by omega), List.getElem?_eq_getElem (show bs.length - 1 - j < bs.length by omega)]
      simp [List.getD, show bs.length - 1 - j < bs.length by omega]
    · rw [List.getElem?_set_ne (by omega), h.2 j hj]
      by_cases h3 : j < i ∨ bs.length - i ≤ j
      · rw [if_pos h3, if_pos (by omega)]
      · rw [if_neg h3, if_neg (by omega)]
end Go.Plumb
namespace Go.Proofs.YtjfjkabmpiebpaaDoor
open Go.RowKit Go.Plumb

theorem info_u8 : (Tryd.prog.info? 5).map (fun i => (i.zero, i.size, i.bytes)) = some (some (.int .u8 0), 1, 1) := by kernel_rfl
def OwnB (w : World) (B : Nat) (v : Value) (l : List UInt8) : Prop := w.ownsRow B 5 1 v l.length (l.map byteV)
theorem OwnB.later {w w' : World} {B : Nat} {v : Value} {l : List UInt8} (h : OwnB w B v l) (hb : Below w.heap.size w w') : OwnB w' B v l := by
  obtain ⟨hx, hn | ⟨g, cap, cur, e, hg, hh, rest⟩⟩ := h
  · exact ⟨hx, .inl hn⟩
  · refine ⟨hx, .inr ⟨g, cap, cur, e, hg, ?_, rest⟩⟩
    rw [hb.block g (Array.getElem?_eq_some_iff.1 hh).1]
    exact hh
theorem OwnB.shape {w : World} {B : Nat} {v : Value} {l : List UInt8} (h : OwnB w B v l) : ∃ a c, v = .slice a l.length c := by
  obtain ⟨_, ⟨rfl, h1⟩ | ⟨g, cap, cur, rfl, _⟩⟩ := h
  · exact ⟨none, 0, by rw [h1]⟩
  · exact ⟨_, _, rfl⟩
theorem OwnB.pos {w : World} {B : Nat} {v : Value} {l : List UInt8} (h : OwnB w B v l) (h0 : 0 < l.length) : ∃ g cap, v = .slice (some ⟨g, 0, none⟩) l.length cap ∧ B ≤ g ∧ g < w.heap.size ∧ cap ≤ maxLen ∧ l.length ≤ cap := by
  obtain ⟨_, ⟨rfl, h1⟩ | ⟨g, cap, cur, rfl, hg, hh, hn, hcap, hsz, htake⟩⟩ := h
  · omega
  · exact ⟨g, cap, rfl, hg, (Array.getElem?_eq_some_iff.1 hh).1, hcap, hn⟩
theorem OwnB.len {w : World} {B : Nat} {a : Option Addr} {n c : Nat} {l : List UInt8} (h : OwnB w B (.slice a n c) l) : n = l.length := by
  obtain ⟨_, ⟨e, h1⟩ | ⟨g, cap, cur, e, _⟩⟩ := h
  · simp only [Value.slice.injEq] at e; omega
  · simp only [Value.slice.injEq] at e; exact e.2.1
theorem OwnB.cell {w : World} {B : Nat} {g n c : Nat} {l : List UInt8} (h : OwnB w B (.slice (some ⟨g, 0, none⟩) n c) l) (j : Nat) (x : UInt8) (hj : l[j]? = some x) : w.cell? ⟨g, j, none⟩ = some (byteV x) := by
  have hn := (List.getElem?_eq_some_iff.1 hj).1
  obtain rfl := h.len
  unfold OwnB at h
  have h2 := World.ownsRow.cellAt h j (by omega)
  rw [h2, List.getElem?_map, hj]; rfl
theorem OwnB.thaw {w : World} {B : Nat} {g n c : Nat} {l : List UInt8} (h : OwnB w B (.slice (some ⟨g, 0, none⟩) n c) l) (j : Nat) : w.frozen? ⟨g, j, none⟩ = false := by
  obtain rfl := h.len
  unfold OwnB at h
  exact World.ownsRow.frozenAt h j
theorem OwnB.store {w : World} {B : Nat} {g n c : Nat} {l : List UInt8} (h : OwnB w B (.slice (some ⟨g, 0, none⟩) n c) l) (j : Nat) (x : UInt8) (v : Value) (hv : v = byteV x) : OwnB (w.setCell ⟨g, j, none⟩ v) B (.slice (some ⟨g, 0, none⟩) n c) (l.set j x) := by
  subst hv
  obtain rfl := h.len
  unfold OwnB at h
  have := (World.ownsRow.stored h j (byteV x)).1
  rw [← List.map_set] at this
  unfold OwnB
  rw [List.length_set]
  exact this
theorem ownB_snoc {w : World} {B : Nat} {v : Value} {l : List UInt8} {x : UInt8} (h : w.ownsRow B 5 1 v (l.length + 1) (l.map byteV ++ [byteV x])) : OwnB w B v (l ++ [x]) := by
  unfold OwnB
  rw [List.length_append, List.map_append]
  exact h
theorem belowB_snoc {w0 w w9 : World} {v : Value} {l : List UInt8} {o : Obj} (hB : Below w0.heap.size w0 w) (h : OwnB w w0.heap.size v l) (hg : (w.alloc o).grownBy w9 v.ownBlock) : Below w0.heap.size w0 w9 := by
  refine (hB.alloc hB.size _).grown hg (by have := hB.size; simp; omega) ?_
  intro q hq
  exact (World.ownsRow.lt (show w.ownsRow w0.heap.size 5 1 v l.length (l.map byteV) from h) q hq).1
/-- A row of bytes as a text. -/
theorem OwnB.text {w : World} {B : Nat} {v : Value} {l : List UInt8} (h : OwnB w B v l) : (convert 71 9 v).run Tryd.prog w = .ok (.string ⟨l.toArray⟩) w := by
  by_cases h0 : 0 < l.length
  · obtain ⟨g, cap, e, _, _, _, _⟩ := OwnB.pos h h0
    subst e
    exact run_convert_bytes_back (P := Tryd.prog) w 71 9 5 ⟨g, 0, none⟩ cap l Tryd.underlying71 Tryd.underlying5 Tryd.underlying9 (fun j hj => by
      rw [show (⟨g, 0, none⟩ : Addr).add j = ⟨g, j, none⟩ by (unfold Addr.add; split <;> simp_all)]
      exact OwnB.cell h j _ (List.getElem?_eq_getElem hj))
  · obtain rfl : l = [] := List.eq_nil_of_length_eq_zero (by omega)
    obtain ⟨_, ⟨rfl, h1⟩ | ⟨g, cap, cur, rfl, _⟩⟩ := h
    · rw [run_convert_bytes_string (P := Tryd.prog) w 71 9 5 none 0 0 Tryd.underlying71 Tryd.underlying5 Tryd.underlying9]
      simp [Conv.bytesToString, loadCells, Sem.run_bind, Sem.run_pure, Result.andThen]
      rfl
    · exact run_convert_bytes_back (P := Tryd.prog) w 71 9 5 ⟨g, 0, none⟩ cap [] Tryd.underlying71 Tryd.underlying5 Tryd.underlying9 (fun j hj => by cases hj)
end Go.Proofs.YtjfjkabmpiebpaaDoor
