/-
  Small facts for the walks of layer 2's laws.
-/
import Derived.Test.YtjfjkabmpiebpaaDoorNatBm
set_option linter.unusedSimpArgs false
set_option linter.unusedVariables false
namespace Go.Plumb
open Go.RowKit
theorem num_max {w : World} {a : Option Addr} {n c : Nat} {l : List Nat} (h : Num w a n c l) : n ≤ 9223372036854775807 := by
  have h1 := h.1
  have h2 := h.2.1
  have h3 := h.2.2.1
  unfold maxLen at h3
  omega
theorem decV_digs (n : Nat) : decV (digs n).reverse = n := by
  induction n using Nat.strongRecOn with
  | ind n ih =>
    by_cases h : n = 0
    · subst h; rw [digs_zero]; rfl
    · rw [digs_pos h, List.reverse_cons, decV_snoc, ih (n / 10) (by omega), digB_toNat (by omega)]
      omega
theorem digs_dig (n : Nat) : DigL (digs n) := by
  induction n using Nat.strongRecOn with
  | ind n ih =>
    by_cases h : n = 0
    · subst h; rw [digs_zero]; intro b hb; cases hb
    · rw [digs_pos h]
      intro b hb
      rcases List.mem_cons.1 hb with rfl | hb
      · rw [digB_toNat (by omega)]; omega
      · exact ih (n / 10) (by omega) b hb
theorem okT_text (n : Nat) : okT (textN n) ∧ decV (textN n) = n := by
  unfold textN
  by_cases h : n = 0
  · rw [if_pos h, h]
    refine ⟨⟨by decide, by decide, ?_⟩, rfl⟩
    intro b hb
    simp at hb
    subst hb
    decide
  · rw [if_neg h]
    obtain ⟨l, b, h1, h2⟩ := digs_top n h
    refine ⟨⟨?_, ?_, ?_⟩, decV_digs n⟩
    · rw [h1]; simp
    · rintro ⟨_, h3⟩
      rw [h1, List.reverse_append, List.reverse_singleton, List.singleton_append, List.getD_cons_zero] at h3
      exact h2 (UInt8.toNat_inj.1 h3)
    · intro c hc
      exact digs_dig n c (List.mem_reverse.1 hc)
theorem textN_length (n k : Nat) (h : (limbs n).length ≤ k) (hk : 1 ≤ k) : (textN n).length ≤ 20 * k := by
  unfold textN
  split
  · simp; omega
  · rw [List.length_reverse]
    exact digs_length _ _ (Nat.lt_of_lt_of_le (lt_pow_length n) (Nat.le_trans (ten_pow _) (Nat.pow_le_pow_right (by decide) (by omega))))
end Go.Plumb
namespace Go.Proofs.YtjfjkabmpiebpaaDoor
open Go.RowKit Go.Plumb
theorem app_num {w1 : World} {v : Value} {l : List Nat} {B n : Nat} (hn : n = l.length) (hl : Limbs l) (h : w1.ownsRow B 36 1 v (0 + n) ([] ++ l.map limbV)) : ∃ a n c, v = .slice a n c ∧ Num w1 a n c l := by
  subst hn
  rw [Nat.zero_add, List.nil_append] at h
  exact own_num (show OwnL w1 B v l from h) hl
theorem grown_none {W w1 : World} (h : W.grownBy w1 (Value.slice none 0 0).ownBlock) : Below W.heap.size W w1 := ⟨h.os, h.tape, h.output, h.size, fun k hk => h.block k hk (by simp [Value.ownBlock])⟩
theorem num_cells {W : World} {b off n c : Nat} {l : List Nat} (h : Num W (some ⟨b, off, none⟩) n c l) : ∀ (j : Nat) (u : Value), (l.map limbV)[j]? = some u → W.cell? (Addr.add ⟨b, off, none⟩ j) = some u := by
  intro j u hu
  rw [List.getElem?_map] at hu
  obtain ⟨x, hx, rfl⟩ := Option.map_eq_some_iff.1 hu
  have hj := (List.getElem?_eq_some_iff.1 hx).1
  obtain ⟨b', off', e, hc⟩ := h.2.2.2.2 j hj
  cases e
  rw [show l.getD j 0 = x by simp [List.getD, hx]] at hc
  have e2 : Addr.add ⟨b, off, none⟩ j = ⟨b, off + j, none⟩ := by unfold Addr.add; split <;> simp_all
  rw [e2]
  exact hc
theorem limb_one {l : List Nat} : ∀ u ∈ l.map limbV, u.oneCell' = true := by
  intro u hu
  obtain ⟨x, _, rfl⟩ := List.mem_map.1 hu
  rfl
section
variable {w : World} {a : Option Addr} {n c : Nat} {l : List Nat}
theorem shl_n_neg (i : Int) (h1 : Num w a n c l) (hi : i < 0) (hl : l.length ≤ 4000) :
    Calls Tryd.prog 35 #[.slice a n c, .int .i64 i] w fun e w' => e = .returned (.tuple #[.slice none 0 0, .int .i64 2]) ∧ Below w.heap.size w w' := by
  obtain ⟨rfl, h1⟩ := h1
  have e1 := len_of h1.2.2.1
  exact Shl_neg a c i l w h1 (by omega) hi
theorem shr_n_neg (i : Int) (h1 : Num w a n c l) (hi : i < 0) (hl : l.length ≤ 4000) :
    Calls Tryd.prog 29 #[.slice a n c, .int .i64 i] w fun e w' => e = .returned (.tuple #[.slice none 0 0, .bool false, .int .i64 2]) ∧ Below w.heap.size w w' := by
  obtain ⟨rfl, h1⟩ := h1
  have e1 := len_of h1.2.2.1
  exact Shr_neg a c i l w h1 (by omega) hi
end
theorem num_addr {W : World} {a : Option Addr} {n c : Nat} {l : List Nat} (h : Num W a n c l) : (a = none ∧ n = 0) ∨ (∃ ad, a = some ad ∧ n = 0) ∨ ∃ b off, a = some ⟨b, off, none⟩ := by
  by_cases h0 : n = 0
  · cases a with
    | none => exact .inl ⟨rfl, h0⟩
    | some ad => exact .inr (.inl ⟨ad, rfl, h0⟩)
  · obtain ⟨b, off, e, _⟩ := h.2.2.2.2 0 (by rw [← h.1]; omega)
    exact .inr (.inr ⟨b, off, e⟩)
end Go.Proofs.YtjfjkabmpiebpaaDoor
