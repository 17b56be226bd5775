/-
  NatU, NatV, NatW, NatX: as one text.
-/
import Derived.Test.YtjlaadadbpffdaaDoorNatT
import Derived.Test.YtjlaadadbpffdaaDoorNnL
import Derived.Laws.AppendOwnNone
import Derived.Deep.AppendLies
set_option linter.unusedSimpArgs false
set_option linter.unusedVariables false
namespace Go.Plumb
theorem cut_step (l : List Nat) (i : Nat) (h : i < l.length) : cutH (l.take (i + 1)) = cutH (l.take i) ++ [l.getD i 0 % 4294967296, l.getD i 0 / 4294967296] := by
  rw [List.take_succ_eq_append_getElem h, cutH_append]
  simp [cutH, List.getD, h]
theorem halves_get {l : List Nat} (h : Halves l) (j : Nat) : l.getD j 0 < 4294967296 := by
  unfold List.getD
  cases e : l[j]? with
  | none => decide
  | some x => exact h x (List.mem_of_getElem? e)
theorem join_step (l : List Nat) (k z : Nat) (h : 2 * k < l.length) (hz : l.getD (2 * k) 0 + l.getD (2 * k + 1) 0 * 4294967296 = z) : joinH (l.take (2 * (k + 1))) = joinH (l.take (2 * k)) ++ [z] := by
  rw [← joinH_take, ← joinH_take]
  have hl : k < (joinH l).length := by rw [joinH_length]; omega
  rw [List.take_succ_eq_append_getElem hl]
  have := joinH_get l k h
  rw [hz] at this
  have e : (joinH l)[k] = z := by rw [← this]; simp [List.getD, hl]
  rw [e]
end Go.Plumb
namespace Go.Proofs.YtjlaadadbpffdaaDoor
open Go.RowKit Go.Plumb

theorem own_ne {w : World} {B : Nat} {v : Value} {l : List Nat} {b : Nat} (h : OwnL w B v l) (hb : b < B) : some b ≠ v.ownBlock := fun e => by
  have := (World.ownsRow.lt (show w.ownsRow B 22 1 v l.length (l.map limbV) from h) b e.symm).1
  omega
theorem OwnL.weaken {w : World} {B B' : Nat} {v : Value} {l : List Nat} (h : OwnL w B v l) (hb : B' ≤ B) : OwnL w B' v l := by
  obtain ⟨hx, hn | ⟨g, cap, cur, e, hg, rest⟩⟩ := h
  · exact ⟨hx, .inl hn⟩
  · exact ⟨hx, .inr ⟨g, cap, cur, e, by omega, rest⟩⟩
theorem one_cell (wx : World) (x : Nat) (t : TypeId) : ∀ (j : Nat) (v : Value), [limbV x][j]? = some v → (wx.alloc (.cells #[limbV x] t)).cell? ((⟨wx.heap.size, 0, none⟩ : Addr).add j) = some v := by
  intro j v hj
  match j, hj with
  | 0, hj => simp at hj; subst hj; simp [Addr.add, go_sem, limbV]
theorem one_one (x : Nat) : ∀ v ∈ [limbV x], v.oneCell' = true := by
  intro v hv; simp at hv; subst hv; rfl
theorem two_cells (wx : World) (x y : Nat) (t : TypeId) : ∀ (j : Nat) (v : Value), [limbV x, limbV y][j]? = some v → (wx.alloc (.cells #[limbV x, limbV y] t)).cell? ((⟨wx.heap.size, 0, none⟩ : Addr).add j) = some v := by
  intro j v hj
  match j, hj with
  | 0, hj => simp at hj; subst hj; simp [Addr.add, go_sem, limbV]
  | 1, hj => simp at hj; subst hj; simp [Addr.add, go_sem, limbV]
theorem two_one (x y : Nat) : ∀ v ∈ [limbV x, limbV y], v.oneCell' = true := by
  intro v hv; simp at hv; rcases hv with rfl | rfl <;> rfl
end Go.Proofs.YtjlaadadbpffdaaDoor

namespace Go.Plumb
theorem halves_limbs {l : List Nat} (h : Halves l) : Limbs l := fun x hx => by have := h x hx; omega
theorem valH_take_any (l : List Nat) (k : Nat) : valH (l.take (k + 1)) = valH (l.take k) + 4294967296 ^ k * l.getD k 0 := by
  by_cases h : k < l.length
  · exact valH_take_succ l k h
  · have e : l.getD k 0 = 0 := by simp [List.getD, List.getElem?_eq_none (Nat.le_of_not_lt h)]
    rw [e, List.take_of_length_le (by omega), List.take_of_length_le (by omega)]; omega
theorem valH_one (x : Nat) : valH [x] = x := by simp [valH]
theorem Halves.snoc {l : List Nat} {x : Nat} (h : Halves l) (hx : x < 4294967296) : Halves (l ++ [x]) := by
  intro y hy
  rcases List.mem_append.1 hy with hy | hy
  · exact h y hy
  · simp at hy; subst hy; exact hx
theorem addH_step (la lb os : List Nat) (i cy x y s : Nat) (hos : os.length = i) (hv : valH os + 4294967296 ^ i * cy = valH (la.take i) + valH (lb.take i)) (hx : la.getD i 0 = x) (hy : lb.getD i 0 = y) (hs : x + y + cy = s) :
    valH (os ++ [s % 4294967296]) + 4294967296 ^ (i + 1) * (s / 4294967296) = valH (la.take (i + 1)) + valH (lb.take (i + 1)) := by
  rw [valH_append, hos, valH_take_any la i, valH_take_any lb i, hx, hy, valH_one, Nat.pow_succ, Nat.mul_assoc]
  have e2 : s % 4294967296 + 4294967296 * (s / 4294967296) = x + y + cy := by omega
  have e3 := congrArg (4294967296 ^ i * ·) e2
  simp only [Nat.mul_add] at e3 ⊢
  omega
end Go.Plumb
namespace Go.Proofs.YtjlaadadbpffdaaDoor
open Go.RowKit Go.Plumb

theorem limbs_eq_iff {A B : Nat} (h : (limbs A).length = (limbs B).length) (he : ∀ j, j < (limbs A).length → (limbs A).getD j 0 = (limbs B).getD j 0) : A = B := by
  apply limbs_inj
  apply List.ext_getElem h
  intro j h3 h4
  have := he j h3
  simpa only [List.getD, List.getElem?_eq_getElem h3, List.getElem?_eq_getElem h4, Option.getD_some] using this
theorem limbs_less {A B : Nat} (h : (limbs A).length = (limbs B).length) (k : Nat) (hk : k < (limbs A).length) (he : ∀ j, k < j → j < (limbs A).length → (limbs A).getD j 0 = (limbs B).getD j 0) (hlt : (limbs A).getD k 0 < (limbs B).getD k 0) : A < B := by
  have hd : (limbs A).drop (k + 1) = (limbs B).drop (k + 1) := by
    apply List.ext_getElem (by simp; omega)
    intro j h3 h4
    simp only [List.length_drop] at h3 h4
    have := he (k + 1 + j) (by omega) (by omega)
    simp only [List.getD, List.getElem?_eq_getElem (show k + 1 + j < (limbs A).length by omega), List.getElem?_eq_getElem (show k + 1 + j < (limbs B).length by omega), Option.getD_some] at this
    rw [List.getElem_drop, List.getElem_drop]
    exact this
  have := valL_lt_of (limbs_limbs A) h k hk hd hlt
  rwa [valL_limbs, valL_limbs] at this
theorem halves_nil : Halves [] := fun x hx => by cases hx
theorem own_snoc {w : World} {B : Nat} {v : Value} {l : List Nat} {x : Nat} (h : w.ownsRow B 22 1 v (l.length + 1) (l.map limbV ++ [limbV x])) : OwnL w B v (l ++ [x]) := by
  unfold OwnL
  rw [List.length_append, List.map_append]
  exact h
theorem below_snoc {w0 w w9 : World} {v : Value} {l : List Nat} {o : Obj} (hB : Below w0.heap.size w0 w) (h : OwnL w w0.heap.size v l) (hg : (w.alloc o).grownBy w9 v.ownBlock) : Below w0.heap.size w0 w9 := by
  refine (hB.alloc hB.size _).grown hg (by have := hB.size; simp; omega) ?_
  intro q hq
  exact (World.ownsRow.lt (show w.ownsRow w0.heap.size 22 1 v l.length (l.map limbV) from h) q hq).1
end Go.Proofs.YtjlaadadbpffdaaDoor

namespace Go.Plumb
theorem subH_step (la lb os : List Nat) (i bo x y s : Nat) (hos : os.length = i) (hv : valH os + valH (lb.take i) = valH (la.take i) + 4294967296 ^ i * bo) (hx : la.getD i 0 = x) (hy : lb.getD i 0 = y) (hs : s + y + bo = 4294967296 + x) (hsb : s < 8589934592) :
    valH (os ++ [s % 4294967296]) + valH (lb.take (i + 1)) = valH (la.take (i + 1)) + 4294967296 ^ (i + 1) * (1 - s / 4294967296) := by
  rw [valH_append, hos, valH_take_any la i, valH_take_any lb i, hx, hy, valH_one, Nat.pow_succ, Nat.mul_assoc]
  have e2 : s % 4294967296 + y + bo = x + 4294967296 * (1 - s / 4294967296) := by omega
  have e3 := congrArg (4294967296 ^ i * ·) e2
  simp only [Nat.mul_add] at e3 ⊢
  omega
theorem subH_end (la lb os : List Nat) (n bo A B : Nat) (hA : valH la = A) (hB : valH lb = B) (hla : la.length = n) (hla2 : Halves la) (hos : os.length = n) (hl : Halves os) (hle : B ≤ A) (hv : valH os + valH (lb.take n) = valH (la.take n) + 4294967296 ^ n * bo) : valH os = A - B := by
  have h1 := valH_lt hl
  rw [hos] at h1
  have h2 := valH_lt hla2
  rw [hla, hA] at h2
  rw [← hla, List.take_length, hla, hA] at hv
  have hB2 : valH (lb.take n) = B := by
    by_cases hn : n ≤ lb.length
    · have h3 := valH_split lb n hn
      rw [hB] at h3
      have : valH (lb.drop n) = 0 := by
        apply Nat.eq_zero_of_not_pos
        intro h0
        have := Nat.mul_le_mul_left (4294967296 ^ n) (show 1 ≤ valH (lb.drop n) from h0)
        omega
      rw [this] at h3
      simpa using h3.symm
    · rw [List.take_of_length_le (by omega), hB]
  rw [hB2] at hv
  have : bo = 0 := by
    apply Nat.eq_zero_of_not_pos
    intro h0
    have := Nat.mul_le_mul_left (4294967296 ^ n) (show 1 ≤ bo from h0)
    omega
  subst this
  omega
end Go.Plumb
namespace Go.Proofs.YtjlaadadbpffdaaDoor
open Go.RowKit Go.Plumb

end Go.Proofs.YtjlaadadbpffdaaDoor

namespace Go.Plumb
theorem patchH_value (u : List Nat) (j : Nat) (r : List Nat) (h : j + r.length ≤ u.length) : valH (patch u j r) + 4294967296 ^ j * valH ((u.drop j).take r.length) = valH u + 4294967296 ^ j * valH r := by
  have h1 := valH_split u j (by omega)
  have h2 := valH_split (u.drop j) r.length (by simp; omega)
  rw [List.drop_drop] at h2
  have h3 : valH (patch u j r) = valH (u.take j) + 4294967296 ^ j * (valH r + 4294967296 ^ r.length * valH (u.drop (j + r.length))) := by
    unfold patch
    rw [List.append_assoc, valH_append, valH_append, List.length_take, Nat.min_eq_left (by omega)]
  rw [h3, h1, h2, Nat.mul_add, Nat.mul_add]
  omega
theorem mulsH_step (la lo os : List Nat) (n i cy x o S : Nat) (hos : os.length = i) (hv : valH os + 4294967296 ^ i * cy = valH (lo.take i) + valH (la.take i) * n) (hx : la.getD i 0 = x) (hy : lo.getD i 0 = o)
    (h : S = o + n * x + cy) : valH (os ++ [S % 4294967296]) + 4294967296 ^ (i + 1) * (S / 4294967296) = valH (lo.take (i + 1)) + valH (la.take (i + 1)) * n := by
  rw [valH_append, hos, valH_take_any la i, valH_take_any lo i, hx, hy, valH_one, Nat.pow_succ, Nat.mul_assoc, Nat.add_mul, Nat.mul_assoc _ x n, Nat.mul_comm x n]
  have e0 : S % 4294967296 + 4294967296 * (S / 4294967296) = o + n * x + cy := by rw [← h]; omega
  have e3 := congrArg (4294967296 ^ i * ·) e0
  simp only [Nat.mul_add] at e3 ⊢
  omega
theorem mulsH_round (la lb lo os : List Nat) (k n1 n2 cy y : Nat) (h1 : la.length = n1) (hlo : lo.length = n2 + n1 + 1) (hk : k < n2) (hz : ∀ j, k + n1 ≤ j → lo.getD j 0 = 0) (hv : valH lo = valH (lb.take k) * valH la) (hos : os.length = n1)
    (he : valH os + 4294967296 ^ n1 * cy = valH ((lo.drop k).take n1) + valH la * y) (hy : lb.getD k 0 = y) :
    valH ((patch lo k os).set (k + n1) cy) = valH (lb.take (k + 1)) * valH la ∧ (∀ j, k + 1 + n1 ≤ j → ((patch lo k os).set (k + n1) cy).getD j 0 = 0) ∧ ((patch lo k os).set (k + n1) cy).length = n2 + n1 + 1 := by
  have hpl : (patch lo k os).length = n2 + n1 + 1 := by rw [patch_length _ _ _ (by omega)]; exact hlo
  refine ⟨?_, fun j hj => ?_, by rw [List.length_set]; exact hpl⟩
  · have s1 := valH_set (patch lo k os) (k + n1) cy (by omega)
    have s2 := patchH_value lo k os (by omega)
    rw [getD_patch lo os k (k + n1) (by omega) (by omega), hz (k + n1) (Nat.le_refl _), Nat.mul_zero, Nat.add_zero] at s1
    rw [hos] at s2
    rw [valH_take_any lb k, hy, Nat.add_mul, ← hv, s1, Nat.pow_add, Nat.mul_assoc, Nat.mul_assoc]
    have e3 := congrArg (4294967296 ^ k * ·) he
    simp only [Nat.mul_add] at e3
    rw [Nat.mul_comm y]
    omega
  · unfold List.getD
    rw [List.getElem?_set_ne (by omega)]
    have := getD_patch lo os k j (by omega) (by omega)
    unfold List.getD at this
    rw [this]
    exact hz j (by omega)
theorem patch_halves {u r : List Nat} (h : Halves u) (h' : Halves r) (j : Nat) : Halves (patch u j r) := by
  intro x hx
  unfold patch at hx
  rcases List.mem_append.1 hx with hx | hx
  · rcases List.mem_append.1 hx with hx | hx
    · exact h x (List.mem_of_mem_take hx)
    · exact h' x hx
  · exact h x (List.mem_of_mem_drop hx)
theorem halves_zeros (n : Nat) : Halves (List.replicate n 0) := by
  intro y hy
  rw [(List.mem_replicate.1 hy).2]; decide
theorem Halves.set {l : List Nat} (h : Halves l) (k x : Nat) (hx : x < 4294967296) : Halves (l.set k x) := by
  intro y hy
  rcases List.mem_or_eq_of_mem_set hy with hy | rfl
  · exact h y hy
  · exact hx
end Go.Plumb
namespace Go.Proofs.YtjlaadadbpffdaaDoor
open Go.RowKit Go.Plumb

end Go.Proofs.YtjlaadadbpffdaaDoor
