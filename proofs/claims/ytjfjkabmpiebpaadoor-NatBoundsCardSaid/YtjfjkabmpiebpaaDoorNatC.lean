/-
  nat.open of one and of two; nat.Norm, Of, Cmp at every input.
-/
import Derived.Test.YtjfjkabmpiebpaaDoorNatB
set_option linter.unusedSimpArgs false
set_option linter.unusedVariables false
namespace Go.Plumb
open Go.RowKit
theorem Arr.norm {w : World} {a : Option Addr} {c : Nat} {l : List Nat} (h : Arr w a c l) : Arr w a c (limbs (valL l)) := by
  have key : ∀ k, k ≤ l.length → (∀ j, k ≤ j → l.getD j 0 = 0) → ∃ m, m ≤ l.length ∧ l.take m = limbs (valL l) := by
    intro k
    induction k with
    | zero => intro _ hz; exact ⟨0, Nat.zero_le _, take_limbs h.2.2.1 0 (Nat.zero_le _) (fun j _ => hz j (Nat.zero_le _)) (.inl rfl)⟩
    | succ k ih =>
      intro hk hz
      by_cases h0 : l.getD k 0 = 0
      · exact ih (by omega) fun j hj => by
          by_cases hjk : j = k
          · rw [hjk]; exact h0
          · exact hz j (by omega)
      · exact ⟨k + 1, hk, take_limbs h.2.2.1 (k + 1) hk (fun j hj => hz j hj) (.inr (by simpa using h0))⟩
  obtain ⟨m, hm, e⟩ := key l.length (Nat.le_refl _) (fun j hj => by simp [List.getD, List.getElem?_eq_none hj])
  rw [← e]
  exact h.take m
theorem cell_new (W : World) (v : Value) (t : TypeId) : (W.alloc (.cells #[v] t)).cell? ⟨W.heap.size, 0, none⟩ = some v := World.cell?_alloc_at (hn := rfl) ..
end Go.Plumb
namespace Go.Proofs.YtjfjkabmpiebpaaDoor
open Go.RowKit Go.Plumb

set_option maxHeartbeats 1000000 in
theorem open1_ok (g b : Nat) (a : Option Addr) (c : Nat) (l : List Nat) (w : World) (hgb : g ≠ b) (hp : w.cell? ⟨g, 0, none⟩ = some (.pointer (some ⟨b, 0, none⟩))) (hv : w.cell? ⟨b, 0, none⟩ = some (.slice a l.length c)) (hfz : w.frozen? ⟨b, 0, none⟩ = false) (hA : Arr w a c l) (hl : (limbs (valL l)).length ≤ 4096) :
    Calls Tryd.prog 49 #[.slice (some ⟨g, 0, none⟩) 1 1] w fun e w' => e = .returned (.int .i64 0) ∧ w' = w.setCell ⟨b, 0, none⟩ (.slice a (limbs (valL l)).length c) := by
  obtain ⟨m, hm⟩ : ∃ m, (limbs (valL l)).length = m := ⟨_, rfl⟩
  rw [hm] at hl ⊢
  go_enter Tryd.func49, Tryd.ntmps49
  go_wp2_with fail
  go_loopw [7] (fun v wr => (v = .int .i64 0 ∧ wr = w) ∨ (v = .int .i64 1 ∧ wr = w.setCell ⟨b, 0, none⟩ (.slice a m c))) (fun v _ => (1 - intOf v).toNat)
  case atStart => exact .inl ⟨rfl, rfl⟩
  case round =>
    rcases hrel with ⟨rfl, rfl⟩ | ⟨rfl, rfl⟩
    · go_wp2_with (go_at_call 60; (with_reducible refine (trim_any _ _ _ _ (by assumption)).mono ?_); rintro e w' ⟨rfl, rfl⟩)
      exact ⟨.inr ⟨rfl, trivial⟩, by simp [intOf]⟩
    · go_wp2_with fail
      go_ret
      exact ⟨rfl, rfl⟩
set_option maxHeartbeats 1000000 in
theorem open1_bad (g b k : Nat) (a : Option Addr) (c : Nat) (l : List Nat) (w : World) (hk : 1 ≤ k) (hk2 : k ≤ 2) (hgb : g ≠ b) (hp : w.cell? ⟨g, 0, none⟩ = some (.pointer (some ⟨b, 0, none⟩))) (hv : w.cell? ⟨b, 0, none⟩ = some (.slice a l.length c)) (hfz : w.frozen? ⟨b, 0, none⟩ = false) (hA : Arr w a c l) (hl : 4096 < (limbs (valL l)).length) :
    Calls Tryd.prog 49 #[.slice (some ⟨g, 0, none⟩) k k] w fun e w' => e = .returned (.int .i64 2) ∧ w' = w.setCell ⟨b, 0, none⟩ (.slice a (limbs (valL l)).length c) := by
  obtain ⟨m, hm⟩ : ∃ m, (limbs (valL l)).length = m := ⟨_, rfl⟩
  rw [hm] at hl ⊢
  go_enter Tryd.func49, Tryd.ntmps49
  go_wp2_with fail
  go_loopw [7] (fun v wr => v = .int .i64 0 ∧ wr = w) (fun v _ => (1 - intOf v).toNat)
  case atStart => exact ⟨rfl, rfl⟩
  case round =>
    obtain ⟨rfl, rfl⟩ := hrel
    go_wp2_with (go_at_call 60; (with_reducible refine (trim_any _ _ _ _ (by assumption)).mono ?_); rintro e w' ⟨rfl, rfl⟩)
    go_ret
    exact ⟨rfl, rfl⟩
set_option maxHeartbeats 2000000 in
theorem open2_ok (g b b' : Nat) (a a' : Option Addr) (c c' : Nat) (l l' : List Nat) (w : World) (hgb : g ≠ b) (hgb' : g ≠ b') (hbb : b ≠ b') (hbb' : b' ≠ b) (hp : w.cell? ⟨g, 0, none⟩ = some (.pointer (some ⟨b, 0, none⟩))) (hp' : w.cell? ⟨g, 1, none⟩ = some (.pointer (some ⟨b', 0, none⟩)))
    (hv : w.cell? ⟨b, 0, none⟩ = some (.slice a l.length c)) (hv' : w.cell? ⟨b', 0, none⟩ = some (.slice a' l'.length c')) (hfz : w.frozen? ⟨b, 0, none⟩ = false) (hfz' : w.frozen? ⟨b', 0, none⟩ = false)
    (hA : Arr w a c l) (hA' : Arr w a' c' l') (hB : Arr (w.setCell ⟨b, 0, none⟩ (.slice a (limbs (valL l)).length c)) a' c' l') (hl : (limbs (valL l)).length ≤ 4096) (hl' : (limbs (valL l')).length ≤ 4096) :
    Calls Tryd.prog 49 #[.slice (some ⟨g, 0, none⟩) 2 2] w fun e w' => e = .returned (.int .i64 0) ∧ w' = (w.setCell ⟨b, 0, none⟩ (.slice a (limbs (valL l)).length c)).setCell ⟨b', 0, none⟩ (.slice a' (limbs (valL l')).length c') := by
  obtain ⟨m, hm⟩ : ∃ m, (limbs (valL l)).length = m := ⟨_, rfl⟩
  obtain ⟨m', hm'⟩ : ∃ m', (limbs (valL l')).length = m' := ⟨_, rfl⟩
  rw [hm] at hl hB
  rw [hm'] at hl'
  rw [hm, hm']
  go_enter Tryd.func49, Tryd.ntmps49
  go_wp2_with fail
  go_loopw [7] (fun v wr => (v = .int .i64 0 ∧ wr = w) ∨ (v = .int .i64 1 ∧ wr = w.setCell ⟨b, 0, none⟩ (.slice a m c)) ∨ (v = .int .i64 2 ∧ wr = (w.setCell ⟨b, 0, none⟩ (.slice a m c)).setCell ⟨b', 0, none⟩ (.slice a' m' c'))) (fun v _ => (2 - intOf v).toNat)
  case atStart => exact .inl ⟨rfl, rfl⟩
  case round =>
    rcases hrel with ⟨rfl, rfl⟩ | ⟨rfl, rfl⟩ | ⟨rfl, rfl⟩
    · go_wp2_with (go_at_call 60; (with_reducible refine (trim_any _ _ _ _ (by assumption)).mono ?_); rintro e w' ⟨rfl, rfl⟩)
      exact ⟨.inr (.inl ⟨rfl, trivial⟩), by simp [intOf]⟩
    · go_wp2_with (go_at_call 60; (with_reducible refine (trim_any _ _ _ _ (by assumption)).mono ?_); rintro e w' ⟨rfl, rfl⟩)
      exact ⟨.inr (.inr ⟨rfl, trivial⟩), by simp [intOf]⟩
    · go_wp2_with fail
      go_ret
      exact ⟨rfl, rfl⟩

theorem OwnL.arr {w : World} {B : Nat} {v : Value} {l : List Nat} (h : OwnL w B v l) (hl : Limbs l) : ∃ a c, v = .slice a l.length c ∧ Arr w a c l := by
  obtain ⟨_, ⟨rfl, h0⟩ | ⟨g, cap, cur, rfl, hg, hh, hn, hcap, hsz, htake⟩⟩ := h
  · obtain rfl : l = [] := List.length_eq_zero_iff.1 h0
    exact ⟨none, 0, rfl, Arr.nil _ _ _ (Nat.zero_le _)⟩
  · refine ⟨_, cap, rfl, hn, hcap, hl, fun j hj => ⟨g, 0, rfl, ?_⟩⟩
    have e : (cur.toList.take (l.length * 1))[j]? = some (limbV (l.getD j 0)) := by
      rw [htake, List.getElem?_map, List.getElem?_eq_getElem hj]
      simp [List.getD, hj]
    rw [List.getElem?_take_of_lt (by omega), Array.getElem?_toList] at e
    simp only [World.cell?, hh, Nat.zero_add]
    exact e

set_option maxHeartbeats 1000000 in
theorem norm_any (a : Option Addr) (c : Nat) (l : List Nat) (w : World) (hA : Arr w a c l) (hl : (limbs (valL l)).length ≤ 4096) :
    Calls Tryd.prog 46 #[.slice a l.length c] w fun e w' => ∃ a' c', e = .returned (.tuple #[.slice a' (limbs (valL l)).length c', .int .i64 0]) ∧ Arr w' a' c' (limbs (valL l)) ∧ Below w.heap.size w w' := by
  have hAn := hA.norm
  go_enter Tryd.func46, Tryd.ntmps46
  go_wp2_with fail
  have hB1 : Below w.heap.size w ((w.alloc (.cells #[.slice a l.length c] 22)).alloc (.cells #[.pointer (some ⟨w.heap.size, 0, none⟩)] 62)) := by (repeat' (first | exact Below.refl _ _ | assumption | (refine below_alloc ?_ _) | (refine Below.setCell ?_ ?_ _) | (refine Below.drew ?_) | (refine below_drewN ?_ _))) <;> (first | (simp; done) | (simp; omega) | omega)
  refine (open1_ok (w.heap.size + 1) w.heap.size a c l _ (by omega) (by simp [go_sem]) (by simp [go_sem]) (by simp [go_sem]) (hA.below hB1) hl).mono ?_
  rintro e w' ⟨rfl, rfl⟩
  have hB2 : Below w.heap.size w ((w.alloc (.cells #[.slice a (limbs (valL l)).length c] 22)).alloc (.cells #[.pointer (some ⟨w.heap.size, 0, none⟩)] 62)) := by (repeat' (first | exact Below.refl _ _ | assumption | (refine below_alloc ?_ _) | (refine Below.setCell ?_ ?_ _) | (refine Below.drew ?_) | (refine below_drewN ?_ _))) <;> (first | (simp; done) | (simp; omega) | omega)
  have hA2 := hAn.below hB2
  have hL : (limbs (valL l)).length ≤ 1000000 := by omega
  go_wp2_with fail
  refine (clone_any _ _ _ _ hA2 hL).mono ?_
  rintro e w' ⟨v', rfl, hown, hb⟩
  obtain ⟨a', c', rfl, harr⟩ := hown.arr (limbs_limbs _)
  go_wp2_with fail
  go_ret2
  exact ⟨a', c', rfl, harr, below_step hB2 hb⟩

/-- nat.Of. -/
theorem nof_any (x : Nat) (w : World) (hx : x < 18446744073709551616) :
    Calls Tryd.prog 47 #[.int .u64 (x : Int)] w fun e w' => ∃ a c, e = .returned (.slice a (limbs x).length c) ∧ Arr w' a c (limbs x) ∧ Below w.heap.size w w' := by
  have hB1 : Below w.heap.size w (w.alloc (.cells #[.int .u64 (x : Int)] 36)) := by (repeat' (first | exact Below.refl _ _ | assumption | (refine below_alloc ?_ _) | (refine Below.setCell ?_ ?_ _) | (refine Below.drew ?_) | (refine below_drewN ?_ _))) <;> (first | (simp; done) | (simp; omega) | omega)
  have hA : Arr (w.alloc (.cells #[.int .u64 (x : Int)] 36)) (some ⟨w.heap.size, 0, none⟩) 1 [x] := by
    refine ⟨by simp, by unfold maxLen; omega, Limbs.cons hx Limbs.nil, fun j hj => ⟨_, _, rfl, ?_⟩⟩
    obtain rfl : j = 0 := by simp at hj; omega
    simp [go_sem]
  have hv : valL [x] = x := by simp [valL]
  have key := trim_any _ _ _ _ hA
  rw [hv] at key
  go_enter Tryd.func47, Tryd.ntmps47
  go_wp2_with fail
  refine key.mono ?_
  rintro e w' ⟨rfl, rfl⟩
  go_wp2_with fail
  go_ret
  have hn := hA.norm
  rw [hv] at hn
  exact ⟨_, _, rfl, hn, hB1⟩

/-- The memory in which open of two finds its arguments: the two boxes, the list of their places. -/
noncomputable def boxed2 (w : World) (u v : Value) : World :=
  ((w.alloc (.cells #[u] 22)).alloc (.cells #[v] 22)).alloc (.cells #[.pointer (some ⟨w.heap.size, 0, none⟩), .pointer (some ⟨w.heap.size + 1, 0, none⟩)] 62)
theorem open2_in (a b : Option Addr) (c d : Nat) (l m : List Nat) (w : World) (hA : Arr w a c l) (hB : Arr w b d m) (hl : (limbs (valL l)).length ≤ 4096) (hm : (limbs (valL m)).length ≤ 4096) :
    Calls Tryd.prog 49 #[.slice (some ⟨w.heap.size + 1 + 1, 0, none⟩) 2 2]
      (((w.alloc (.cells #[.slice a l.length c] 22)).alloc (.cells #[.slice b m.length d] 22)).alloc (.cells #[.pointer (some ⟨w.heap.size, 0, none⟩), .pointer (some ⟨w.heap.size + 1, 0, none⟩)] 62))
      fun e w' => e = .returned (.int .i64 0) ∧ ((w.alloc (.cells #[.slice a (limbs (valL l)).length c] 22)).alloc (.cells #[.slice b (limbs (valL m)).length d] 22)).alloc (.cells #[.pointer (some ⟨w.heap.size, 0, none⟩), .pointer (some ⟨w.heap.size + 1, 0, none⟩)] 62) = w' := by
  have hB1 : Below w.heap.size w (((w.alloc (.cells #[.slice a l.length c] 22)).alloc (.cells #[.slice b m.length d] 22)).alloc (.cells #[.pointer (some ⟨w.heap.size, 0, none⟩), .pointer (some ⟨w.heap.size + 1, 0, none⟩)] 62)) := by (repeat' (first | exact Below.refl _ _ | assumption | (refine below_alloc ?_ _) | (refine Below.setCell ?_ ?_ _) | (refine Below.drew ?_) | (refine below_drewN ?_ _))) <;> (first | (simp; done) | (simp; omega) | omega)
  refine (open2_ok (w.heap.size + 1 + 1) w.heap.size (w.heap.size + 1) a b c d l m _ (by omega) (by omega) (by omega) (by omega) (by simp [go_sem]) (by simp [go_sem]) (by simp [go_sem]) (by simp [go_sem]) (by simp [go_sem]) (by simp [go_sem]) (hA.below hB1) (hB.below hB1) (hB.below (hB1.setCell (p := ⟨w.heap.size, 0, none⟩) (Nat.le_refl _) _)) hl hm).mono ?_
  rintro e w' ⟨rfl, rfl⟩
  exact ⟨rfl, by simp [go_sem]⟩

set_option maxHeartbeats 1000000 in
/-- nat.Cmp. -/
theorem Cmp_any (a b : Option Addr) (c d : Nat) (l m : List Nat) (w : World) (hA : Arr w a c l) (hB : Arr w b d m) (hl : (limbs (valL l)).length ≤ 4096) (hm : (limbs (valL m)).length ≤ 4096) :
    Calls Tryd.prog 45 #[.slice a l.length c, .slice b m.length d] w fun e w' => e = .returned (.tuple #[.int .i64 (cmpN (valL l) (valL m)), .int .i64 0]) ∧ Below w.heap.size w w' := by
  have hO := open2_in a b c d l m w hA hB hl hm
  obtain ⟨w2, hw2⟩ : ∃ w2, ((w.alloc (.cells #[.slice a (limbs (valL l)).length c] 22)).alloc (.cells #[.slice b (limbs (valL m)).length d] 22)).alloc (.cells #[.pointer (some ⟨w.heap.size, 0, none⟩), .pointer (some ⟨w.heap.size + 1, 0, none⟩)] 62) = w2 := ⟨_, rfl⟩
  have hB2 : Below w.heap.size w w2 := by rw [← hw2]; (repeat' (first | exact Below.refl _ _ | assumption | (refine below_alloc ?_ _) | (refine Below.setCell ?_ ?_ _) | (refine Below.drew ?_) | (refine below_drewN ?_ _))) <;> (first | (simp; done) | (simp; omega) | omega)
  have hAn := hA.norm.below hB2
  have hBn := hB.norm.below hB2
  rw [hw2] at hO
  have c1 : w2.cell? ⟨w.heap.size, 0, none⟩ = some (.slice a (limbs (valL l)).length c) := by rw [← hw2]; simp [go_sem]
  have c2 : w2.cell? ⟨w.heap.size + 1, 0, none⟩ = some (.slice b (limbs (valL m)).length d) := by rw [← hw2]; simp [go_sem]
  clear hw2
  go_enter Tryd.func45, Tryd.ntmps45
  go_wp2_with fail
  refine hO.mono ?_
  rintro e w' ⟨rfl, rfl⟩
  go_wp2_with (go_at_call 56; (with_reducible refine (cmp_any _ _ _ _ _ _ _ (by assumption) (by assumption)).mono ?_); rintro e w' ⟨rfl, hb⟩; have hB3 := below_step hB2 hb)
  go_ret2
  exact ⟨rfl, by assumption⟩
end Go.Proofs.YtjfjkabmpiebpaaDoor
