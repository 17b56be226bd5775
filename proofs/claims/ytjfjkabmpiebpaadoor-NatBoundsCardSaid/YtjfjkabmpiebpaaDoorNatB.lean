/-
  nat.cmp at every two numbers; nat.open of one and of two.
-/
import Derived.Test.YtjfjkabmpiebpaaDoorNatA
set_option linter.unusedSimpArgs false
set_option linter.unusedVariables false
namespace Go.Plumb
open Go.RowKit
theorem Arr.at {w : World} {a : Option Addr} {c : Nat} {l : List Nat} (h : Arr w a c l) (h0 : l ≠ []) : ∃ b off, a = some ⟨b, off, none⟩ ∧ ∀ j, j < l.length → w.cell? ⟨b, off + j, none⟩ = some (.int .u64 ((l.getD j 0 : Nat) : Int)) := by
  obtain ⟨_, _, _, h4⟩ := h
  obtain ⟨b, off, e, _⟩ := h4 0 (List.length_pos_iff.2 h0)
  refine ⟨b, off, e, fun j hj => ?_⟩
  obtain ⟨b', off', e', hc⟩ := h4 j hj
  rw [e] at e'
  cases e'
  exact hc
/-- Two numbers held against each other. -/
def cmpN (a b : Nat) : Int := if a < b then -1 else if b < a then 1 else 0
end Go.Plumb
namespace Go.Proofs.YtjfjkabmpiebpaaDoor
open Go.RowKit Go.Plumb

set_option maxHeartbeats 1000000 in
theorem cmp_core (b1 o1 c1 b2 o2 c2 n : Nat) (f g : Nat → Int) (w : World) (hn : n ≤ 9223372036854775807) (hf : ∀ j, j < n → w.cell? ⟨b1, o1 + j, none⟩ = some (.int .u64 (f j))) (hg : ∀ j, j < n → w.cell? ⟨b2, o2 + j, none⟩ = some (.int .u64 (g j))) :
    Calls Tryd.prog 56 #[.slice (some ⟨b1, o1, none⟩) n c1, .slice (some ⟨b2, o2, none⟩) n c2] w fun e w' => Below w.heap.size w w' ∧
      ((e = .returned (.int .i64 0) ∧ ∀ j, j < n → f j = g j) ∨ ∃ k, k < n ∧ (∀ j, k < j → j < n → f j = g j) ∧ ((e = .returned (.int .i64 (-1)) ∧ f k < g k) ∨ (e = .returned (.int .i64 1) ∧ g k < f k))) := by
  have HF := Lib.hid hf
  have HG := Lib.hid hg
  clear hf hg
  go_enter Tryd.func56, Tryd.ntmps56
  go_wp2_with fail
  go_loopw [5] (fun v wr => ∃ m : Nat, m ≤ n ∧ v = .int .i64 ((m : Int) - 1) ∧ Hid (∀ j, m ≤ j → j < n → f j = g j) ∧ Hid (Below w.heap.size w wr)) (fun v _ => (intOf v + 1).toNat)
  case atStart => exact ⟨n, Nat.le_refl _, rfl, Lib.hid fun j h1 h2 => by omega, Lib.hid (Below.refl _ _)⟩
  case round =>
    obtain ⟨m, hm, rfl, hz, hB⟩ := hrel
    cases m with
    | zero =>
      go_wp2_with fail
      go_ret
      exact ⟨hB.out, .inl ⟨rfl, fun j hj => hz.out j (by omega) hj⟩⟩
    | succ k =>
      have hc1 := (hB.out.cell (p := ⟨b1, o1 + k, none⟩) (cell_lt (HF.out k (by omega)))).trans (HF.out k (by omega))
      have hc2 := (hB.out.cell (p := ⟨b2, o2 + k, none⟩) (cell_lt (HG.out k (by omega)))).trans (HG.out k (by omega))
      have ek : ((k + 1 : Nat) : Int) - 1 = (k : Int) := by omega
      rw [ek]
      by_cases h1 : f k < g k
      · go_wp2_with fail
        go_region
        all_goals go_wp2_with fail
        all_goals go_ret
        all_goals exact ⟨by have h := hB.out; (repeat' (first | exact Below.refl _ _ | assumption | (refine below_alloc ?_ _) | (refine Below.setCell ?_ ?_ _) | (refine Below.drew ?_) | (refine below_drewN ?_ _))) <;> (first | (simp; done) | (simp; omega) | omega), .inr ⟨k, by omega, fun j h2 h3 => hz.out j (by omega) h3, .inl ⟨rfl, h1⟩⟩⟩
      · by_cases h2 : g k < f k
        · go_wp2_with fail
          go_region
          all_goals go_wp2_with fail
          all_goals go_region
          all_goals go_wp2_with fail
          all_goals go_ret
          all_goals exact ⟨by have h := hB.out; (repeat' (first | exact Below.refl _ _ | assumption | (refine below_alloc ?_ _) | (refine Below.setCell ?_ ?_ _) | (refine Below.drew ?_) | (refine below_drewN ?_ _))) <;> (first | (simp; done) | (simp; omega) | omega), .inr ⟨k, by omega, fun j h2 h3 => hz.out j (by omega) h3, .inr ⟨rfl, h2⟩⟩⟩
        · go_wp2_with fail
          go_region
          all_goals go_wp2_with fail
          all_goals go_region
          all_goals go_wp2_with fail
          all_goals go_roundw
          case rel =>
            refine ⟨k, by omega, rfl, Lib.hid fun j h3 h4 => ?_, Lib.hid (by have h := hB.out; (repeat' (first | exact Below.refl _ _ | assumption | (refine below_alloc ?_ _) | (refine Below.setCell ?_ ?_ _) | (refine Below.drew ?_) | (refine below_drewN ?_ _))) <;> (first | (simp; done) | (simp; omega) | omega))⟩
            by_cases hj : j = k
            · subst hj; omega
            · exact hz.out j (by omega) h4
          case measure => simp [intOf]

theorem cmp_zero (a b : Option Addr) (c d : Nat) (w : World) :
    Calls Tryd.prog 56 #[.slice a 0 c, .slice b 0 d] w fun e w' => e = .returned (.int .i64 0) ∧ w = w' := by
  go_enter Tryd.func56, Tryd.ntmps56
  go_wp2_with fail
  go_loop [5] (fun v => v = .int .i64 (-1)) (fun v => (intOf v + 1).toNat)
  case atStart => rfl
  case round =>
    subst hrel
    go_wp2_with fail
    go_ret
    exact ⟨rfl, rfl⟩
theorem cmp_less (a b : Option Addr) (n m c d : Nat) (w : World) (hn : n < m) :
    Calls Tryd.prog 56 #[.slice a n c, .slice b m d] w fun e w' => e = .returned (.int .i64 (-1)) ∧ w = w' := by
  go_enter Tryd.func56, Tryd.ntmps56
  go_wp2_with fail
  go_ret
  exact ⟨rfl, rfl⟩
theorem cmp_more (a b : Option Addr) (n m c d : Nat) (w : World) (hn : m < n) :
    Calls Tryd.prog 56 #[.slice a n c, .slice b m d] w fun e w' => e = .returned (.int .i64 1) ∧ w = w' := by
  go_enter Tryd.func56, Tryd.ntmps56
  go_wp2_with fail
  go_ret
  exact ⟨rfl, rfl⟩
theorem ret_int' {k : IntKind} {a b : Int} (h : a = b) : Ending.returned (.int k a) = .returned (.int k b) := by rw [h]
/-- nat.cmp of two normal numbers. -/
theorem cmp_any (a b : Option Addr) (c d A B : Nat) (w : World) (ha : Arr w a c (limbs A)) (hb : Arr w b d (limbs B)) :
    Calls Tryd.prog 56 #[.slice a (limbs A).length c, .slice b (limbs B).length d] w fun e w' => e = .returned (.int .i64 (cmpN A B)) ∧ Below w.heap.size w w' := by
  by_cases h1 : (limbs A).length < (limbs B).length
  · refine (cmp_less a b _ _ c d w h1).mono ?_
    rintro e w' ⟨rfl, rfl⟩
    have := lt_of_length h1
    exact ⟨ret_int' (by unfold cmpN; rw [if_pos this]), Below.refl _ _⟩
  · by_cases h2 : (limbs B).length < (limbs A).length
    · refine (cmp_more a b _ _ c d w h2).mono ?_
      rintro e w' ⟨rfl, rfl⟩
      have := lt_of_length h2
      exact ⟨ret_int' (by unfold cmpN; rw [if_neg (by omega), if_pos this]), Below.refl _ _⟩
    · have hlen : (limbs A).length = (limbs B).length := by omega
      by_cases h0 : limbs A = []
      · have hA := (limbs_nil_iff A).1 h0
        have hB0 : limbs B = [] := List.length_eq_zero_iff.1 (by rw [← hlen, h0]; rfl)
        have hB := (limbs_nil_iff B).1 hB0
        subst hA hB
        rw [limbs_zero]
        refine (cmp_zero a b c d w).mono ?_
        rintro e w' ⟨rfl, rfl⟩
        exact ⟨rfl, Below.refl _ _⟩
      · obtain ⟨b1, o1, rfl, hf⟩ := ha.at h0
        obtain ⟨b2, o2, rfl, hg⟩ := hb.at (by intro h; rw [h] at hlen; exact h0 (List.length_eq_zero_iff.1 hlen))
        have hmax : (limbs A).length ≤ 9223372036854775807 := by have := ha.1; have h := ha.2.1; unfold maxLen at h; omega
        have key := cmp_core b1 o1 c b2 o2 d (limbs A).length (fun j => (((limbs A).getD j 0 : Nat) : Int)) (fun j => (((limbs B).getD j 0 : Nat) : Int)) w hmax hf (fun j hj => hg j (by omega))
        rw [← hlen]
        refine key.mono ?_
        rintro e w' ⟨hbel, ⟨rfl, heq⟩ | ⟨k, hk, heq, hh⟩⟩
        · have : limbs A = limbs B := by
            apply List.ext_getElem hlen
            intro j h3 h4
            have := heq j h3
            simp only [List.getD, List.getElem?_eq_getElem h3, List.getElem?_eq_getElem h4, Option.getD_some] at this
            omega
          have := limbs_inj this
          exact ⟨ret_int' (by unfold cmpN; rw [if_neg (by omega), if_neg (by omega)]), hbel⟩
        · have hdrop : (limbs A).drop (k + 1) = (limbs B).drop (k + 1) := by
            apply List.ext_getElem (by simp; omega)
            intro j h3 h4
            simp only [List.length_drop] at h3 h4
            have := heq (k + 1 + j) (by omega) (by omega)
            simp only [List.getD, List.getElem?_eq_getElem (show k + 1 + j < (limbs A).length by omega), List.getElem?_eq_getElem (show k + 1 + j < (limbs B).length by omega), Option.getD_some] at this
            rw [List.getElem_drop, List.getElem_drop]
            omega
          rcases hh with ⟨rfl, hlt⟩ | ⟨rfl, hlt⟩
          · have := valL_lt_of (limbs_limbs A) hlen k hk hdrop (by omega)
            rw [valL_limbs, valL_limbs] at this
            exact ⟨ret_int' (by unfold cmpN; rw [if_pos this]), hbel⟩
          · have := valL_lt_of (limbs_limbs B) hlen.symm k (by omega) hdrop.symm (by omega)
            rw [valL_limbs, valL_limbs] at this
            exact ⟨ret_int' (by unfold cmpN; rw [if_neg (by omega), if_pos this]), hbel⟩

end Go.Proofs.YtjfjkabmpiebpaaDoor
