/-
  dyad: within, May, norm, done at every number of at most 4000 limbs.
-/
import Derived.Test.YtjlaadadbpffdaaGreatDoorNnH
import Derived.Test.YtjlaadadbpffdaaGreatDoorDyL
set_option linter.unusedSimpArgs false
set_option linter.unusedVariables false
namespace Go.Plumb
open Go.RowKit
theorem zerosN_len {l : List Nat} (h : Limbs l) (hl : l.length ≤ 4000) : zerosN (valL l) ≤ 256000 := by
  by_cases h0 : valL l = 0
  · rw [h0, zerosN_zero]; omega
  · have h1 := oddN_mul (valL l)
    have h2 := valL_lt h
    have h3 := oddN_ne h0
    apply Nat.le_of_not_lt
    intro hlt
    have h4 : 2 ^ (64 * l.length) ≤ 2 ^ zerosN (valL l) := Nat.pow_le_pow_right (by decide) (by omega)
    have h5 : 1 * 2 ^ zerosN (valL l) ≤ oddN (valL l) * 2 ^ zerosN (valL l) := Nat.mul_le_mul_right _ (by omega)
    rw [powB64] at h2
    omega
theorem limbs_nil {m : Nat} : (limbs m).length = 0 ↔ m = 0 := by
  constructor
  · intro h
    by_cases h0 : m = 0
    · exact h0
    · rw [limbs_pos h0] at h; simp at h
  · intro h; rw [h, limbs_zero]; rfl
theorem len_odd {l : List Nat} (h : Limbs l) : (Plumb.limbs (oddN (valL l))).length ≤ l.length := Nat.le_trans (length_mono (oddN_le _)) (len_of h)
/-- The three cells of a dyad in a box. -/
structure Boxed3 (w : World) (b : Nat) (s : Bool) (a : Option Addr) (n c : Nat) (e : Int) : Prop where
  c0 : w.cell? ⟨b, 0, none⟩ = some (.bool s)
  c1 : w.cell? ⟨b, 1, none⟩ = some (.slice a n c)
  c2 : w.cell? ⟨b, 2, none⟩ = some (.int .i64 e)
  f0 : w.frozen? ⟨b, 0, none⟩ = false
  f1 : w.frozen? ⟨b, 1, none⟩ = false
  f2 : w.frozen? ⟨b, 2, none⟩ = false
theorem Boxed3.lt {w : World} {b : Nat} {s : Bool} {a : Option Addr} {n c : Nat} {e : Int} (h : Boxed3 w b s a n c e) : b < w.heap.size := cell_lt h.c0
theorem Boxed3.below {w w' : World} {b : Nat} {s : Bool} {a : Option Addr} {n c : Nat} {e : Int} (h : Boxed3 w b s a n c e) (hb : Below w.heap.size w w') : Boxed3 w' b s a n c e := by
  have hl := h.lt
  obtain ⟨hc, hf⟩ := bcell hb
  exact ⟨by rw [hc _ _ hl]; exact h.c0, by rw [hc _ _ hl]; exact h.c1, by rw [hc _ _ hl]; exact h.c2, by rw [hf _ _ hl]; exact h.f0, by rw [hf _ _ hl]; exact h.f1, by rw [hf _ _ hl]; exact h.f2⟩
theorem Boxed3.alloc {w : World} {b : Nat} {s : Bool} {a : Option Addr} {n c : Nat} {e : Int} (h : Boxed3 w b s a n c e) (o : Obj) : Boxed3 (w.alloc o) b s a n c e := h.below (below_alloc (Below.refl _ _) o)
theorem Boxed3.new (w : World) (s : Bool) (a : Option Addr) (n c : Nat) (e : Int) (t : TypeId) {g : Nat} (hg : g = w.heap.size) : Boxed3 (w.alloc (.cells #[.bool s, .slice a n c, .int .i64 e] t)) g s a n c e := by
  subst hg
  constructor <;> simp [go_sem]
/-- A box filled anew. -/
theorem Boxed3.fill {w : World} {b : Nat} {s : Bool} {a : Option Addr} {n c : Nat} {e : Int} (h : Boxed3 w b s a n c e) (s' : Bool) (a' : Option Addr) (n' c' : Nat) (e' : Int) :
    Boxed3 (((w.setCell ⟨b, 0, none⟩ (.bool s')).setCell ⟨b, 1, none⟩ (.slice a' n' c')).setCell ⟨b, 2, none⟩ (.int .i64 e')) b s' a' n' c' e' := by
  obtain ⟨c0, c1, c2, f0, f1, f2⟩ := h
  constructor <;> simp [go_sem, c0, c1, c2, f0, f1, f2]
theorem Boxed3.other {w : World} {b k : Nat} {s : Bool} {a : Option Addr} {n c : Nat} {e : Int} (h : Boxed3 w b s a n c e) (hk : k ≠ b) (i : Nat) (v : Value) : Boxed3 (w.setCell ⟨k, i, none⟩ v) b s a n c e := by
  obtain ⟨c0, c1, c2, f0, f1, f2⟩ := h
  constructor <;> simp [go_sem, c0, c1, c2, f0, f1, f2, hk]
/-- A store where no limb lies. -/
theorem Num.set {w : World} {a : Option Addr} {n c : Nat} {l : List Nat} (h : Num w a n c l) {p : Addr} {u : Value} (hc : w.cell? p = some u) (hu : ∀ x : Int, u ≠ .int .u64 x) (v : Value) : Num (w.setCell p v) a n c l := by
  obtain ⟨h0, h1, h2, h3, h4⟩ := h
  refine ⟨h0, h1, h2, h3, fun j hj => ?_⟩
  obtain ⟨b, off, e, hx⟩ := h4 j hj
  refine ⟨b, off, e, ?_⟩
  rw [World.cell?_setCell_other _ _ _ _ ?_]
  · exact hx
  · intro hp
    rw [← hp, hc] at hx
    exact hu _ (Option.some.inj hx)
theorem Num.fill {w : World} {b : Nat} {s : Bool} {a : Option Addr} {n c : Nat} {e : Int} (hB : Boxed3 w b s a n c e) {a' : Option Addr} {n' c' : Nat} {l : List Nat} (h : Num w a' n' c' l) (s' : Bool) (a'' : Option Addr) (n'' c'' : Nat) (e' : Int) :
    Num (((w.setCell ⟨b, 0, none⟩ (.bool s')).setCell ⟨b, 1, none⟩ (.slice a'' n'' c'')).setCell ⟨b, 2, none⟩ (.int .i64 e')) a' n' c' l := by
  obtain ⟨c0, c1, c2, f0, f1, f2⟩ := hB
  refine ((h.set c0 (by intro x h; cases h) _).set (u := .slice a n c) (by simp [go_sem, c1]) (by intro x h; cases h) _).set (u := .int .i64 e) (by simp [go_sem, c2]) (by intro x h; cases h) _
end Go.Plumb
namespace Go.Proofs.YtjlaadadbpffdaaGreatDoor
open Go.RowKit Go.Plumb

theorem within_any (e : Int) (w : World) : Calls Tryz.prog 104 #[.int .i64 e] w fun x w' => x = .returned (.bool (decide (mayE e))) ∧ w = w' := by
  have e1 : decide (mayE e) = (decide (-262144 ≤ e) && decide (e ≤ 262144)) := by
    rw [Bool.eq_iff_iff, decide_eq_true_iff, Bool.and_eq_true, decide_eq_true_iff, decide_eq_true_iff]
    exact Iff.rfl
  rw [e1]
  clear e1
  go_enter Tryz.func104, Tryz.ntmps104
  go_wp2_with fail
  all_goals go_ret
  · rename_i h
    rw [decide_eq_true h]
    exact ⟨rfl, rfl⟩
  · rename_i h
    rw [decide_eq_false (by omega)]
    exact ⟨rfl, rfl⟩

section
variable {w : World} {a : Option Addr} {n c : Nat} {l : List Nat}
theorem may_any (s : Bool) (e : Int) (h1 : Num w a n c l) (hl : l.length ≤ 4000) :
    Calls Tryz.prog 54 #[.agg #[.bool s, .slice a n c, .int .i64 e]] w fun x w' => x = .returned (.bool (decide (mayE e))) ∧ Below w.heap.size w w' := by
  have hN := fun w' (hb : Below w.heap.size w w') => norm_n (h1.below hb) hl
  have hW := fun w => within_any e w
  obtain ⟨b, hb⟩ : ∃ b, decide (mayE e) = b := ⟨_, rfl⟩
  simp only [hb] at hW ⊢
  clear h1
  have X0 := Boxed3.new w s a n c e 24 rfl
  go_enter Tryz.func54, Tryz.ntmps54
  go_wp2_with fail
  refine (hN _ (by (repeat' (first | exact Below.refl _ _ | assumption | (refine below_alloc ?_ _) | (refine Below.setCell ?_ ?_ _) | (refine Below.drew ?_) | (refine below_drewN ?_ _))) <;> (first | (simp; done) | (simp; omega) | omega))).mono ?_
  rintro x w1 ⟨a', n', c', rfl, hn, hb1⟩
  obtain ⟨x0, x1, x2, _, _, _⟩ := X0.below hb1
  go_wp2_with fail
  refine (hW _).mono ?_
  rintro x w' ⟨rfl, rfl⟩
  go_wp2_with fail
  go_ret
  exact ⟨rfl, below_step (by (repeat' (first | exact Below.refl _ _ | assumption | (refine below_alloc ?_ _) | (refine Below.setCell ?_ ?_ _) | (refine Below.drew ?_) | (refine below_drewN ?_ _))) <;> (first | (simp; done) | (simp; omega) | omega)) hb1⟩
set_option maxHeartbeats 1000000 in
theorem dnorm_any (s : Bool) (e : Int) (hT : Tab w) (h1 : Num w a n c l) (hl : l.length ≤ 4000) (he0 : -1000000000 ≤ e) (he1 : e ≤ 1000000000) :
    Calls Tryz.prog 94 #[.agg #[.bool s, .slice a n c, .int .i64 e]] w fun x w' => ∃ a' n' c', x = .returned (.agg #[.bool (nrm ⟨s, valL l, e⟩).s, .slice a' n' c', .int .i64 (nrm ⟨s, valL l, e⟩).e]) ∧ Num w' a' n' c' (limbs (nrm ⟨s, valL l, e⟩).m) ∧ Below w.heap.size w w' := by
  have hN := fun w' (hb : Below w.heap.size w w') => norm_n (h1.below hb) hl
  obtain ⟨V, hV⟩ : ∃ V, valL l = V := ⟨_, rfl⟩
  have hz := zerosN_len h1.limbs hl
  have hlen : (limbs V).length ≤ 4000 := by rw [← hV]; exact Nat.le_trans (len_of h1.limbs) hl
  rw [hV] at hN hz ⊢
  clear h1 hV hl
  obtain ⟨Z, hZ⟩ : ∃ Z, zerosN V = Z := ⟨_, rfl⟩
  have X0 := (Boxed3.new w s a n c e 24 rfl).alloc (.cells #[.bool false, .slice none 0 0, .int .i64 0] 24)
  have R0 := Boxed3.new (w.alloc (.cells #[.bool s, .slice a n c, .int .i64 e] 24)) false none 0 0 0 24 (g := w.heap.size + 1) (by simp)
  by_cases h0 : V = 0
  · have hR := nrm_zero (d := ⟨s, V, e⟩) h0
    rw [hR]
    clear hR
    go_enter Tryz.func94, Tryz.ntmps94
    go_wp2_with fail
    refine (hN _ (by (repeat' (first | exact Below.refl _ _ | assumption | (refine below_alloc ?_ _) | (refine Below.setCell ?_ ?_ _) | (refine Below.drew ?_) | (refine below_drewN ?_ _))) <;> (first | (simp; done) | (simp; omega) | omega))).mono ?_
    rintro x w1 ⟨a', n', c', rfl, hn, hb1⟩
    have hB1 := below_step (w0 := w) (by (repeat' (first | exact Below.refl _ _ | assumption | (refine below_alloc ?_ _) | (refine Below.setCell ?_ ?_ _) | (refine Below.drew ?_) | (refine below_drewN ?_ _))) <;> (first | (simp; done) | (simp; omega) | omega)) hb1
    have X1 := X0.below hb1
    have R1 := R0.below hb1
    have hn1 := Lib.hid hn
    have hn0 := hn.1
    clear hn X0 R0 hb1
    obtain ⟨x0, x1, x2, _, _, _⟩ := id X1
    obtain ⟨r0, r1, r2, g0, g1, g2⟩ := id R1
    rw [h0, limbs_zero] at hn0
    obtain rfl : n' = 0 := hn0
    go_wp2_with fail
    exact bodyPost_ret (v := .agg #[.bool false, .slice none 0 0, .int .i64 0]) (by simp [results, Tryz.results94, go_sem, r0, r1, r2, g0, g1, g2]) rfl ⟨none, 0, 0, rfl, by show Num _ _ _ _ (limbs 0); rw [limbs_zero]; exact Num.nil _, by (repeat' (first | exact Below.refl _ _ | assumption | (refine below_alloc ?_ _) | (refine Below.setCell ?_ ?_ _) | (refine Below.drew ?_) | (refine below_drewN ?_ _))) <;> (first | (simp; done) | (simp; omega) | omega)⟩
  · have hR := nrm_pos (d := ⟨s, V, e⟩) h0
    simp only [hZ] at hR hz
    obtain ⟨X, hX⟩ : ∃ X, nrm ⟨s, V, e⟩ = X := ⟨_, rfl⟩
    rw [hX] at hR ⊢
    clear hX
    have HR := Lib.hid hR
    clear hR
    have hz2 : (Z : Int) ≤ 256000 := by omega
    have hz3 : (0 : Int) ≤ Z := by omega
    clear hz
    go_enter Tryz.func94, Tryz.ntmps94
    go_wp2_with fail
    refine (hN _ (by (repeat' (first | exact Below.refl _ _ | assumption | (refine below_alloc ?_ _) | (refine Below.setCell ?_ ?_ _) | (refine Below.drew ?_) | (refine below_drewN ?_ _))) <;> (first | (simp; done) | (simp; omega) | omega))).mono ?_
    rintro x w1 ⟨a', n', c', rfl, hn, hb1⟩
    have hB1 := below_step (w0 := w) (by (repeat' (first | exact Below.refl _ _ | assumption | (refine below_alloc ?_ _) | (refine Below.setCell ?_ ?_ _) | (refine Below.drew ?_) | (refine below_drewN ?_ _))) <;> (first | (simp; done) | (simp; omega) | omega)) hb1
    have X1 := X0.below hb1
    have R1 := R0.below hb1
    have hn1 := Lib.hid hn
    have hn0 := hn.1
    clear hn X0 R0 hb1
    obtain ⟨x0, x1, x2, _, _, _⟩ := id X1
    obtain ⟨r0, r1, r2, g0, g1, g2⟩ := id R1
    have hn2 : n' ≠ 0 := by rw [hn0]; exact fun h => h0 (limbs_nil.1 h)
    clear hn0
    go_wp2_with fail
    refine (zeros_n (hT.below hB1) hn1.out hlen).mono ?_
    rw [valL_limbs, hZ]
    rintro x w2 ⟨rfl, hb2⟩
    have hB2 := below_step hB1 hb2
    have hn3 := Lib.hid (hn1.out.below hb2)
    have X2 := X1.below hb2
    have R2 := R1.below hb2
    clear hb2 hB1 hn1 X1 R1 x0 x1 x2 r0 r1 r2 g0 g1 g2
    obtain ⟨x0, x1, x2, _, _, _⟩ := id X2
    obtain ⟨r0, r1, r2, g0, g1, g2⟩ := id R2
    go_wp2_with fail
    refine (shr_n (V / 2 ^ Z) Z hn3.out (by rw [valL_limbs]) hlen (by omega)).mono ?_
    rintro x w3 ⟨a3, n3, c3, rfl, h3, hb3⟩
    have hB3 := below_step hB2 hb3
    have X3 := X2.below hb3
    have R3 := R2.below hb3
    have h4 := Lib.hid h3
    clear hb3 hB2 hn3 X2 R2 x0 x1 x2 r0 r1 r2 g0 g1 g2 h3
    obtain ⟨x0, x1, x2, _, _, _⟩ := id X3
    obtain ⟨r0, r1, r2, g0, g1, g2⟩ := id R3
    go_wp2_with fail
    have hR := HR.out
    subst hR
    refine bodyPost_ret (v := .agg #[.bool s, .slice a3 n3 c3, .int .i64 (e + (Z : Int))]) (by simp [results, Tryz.results94, go_sem, r0, r1, r2, g0, g1, g2]) rfl ⟨a3, n3, c3, rfl, ?_, by (repeat' (first | exact Below.refl _ _ | assumption | (refine below_alloc ?_ _) | (refine Below.setCell ?_ ?_ _) | (refine Below.drew ?_) | (refine below_drewN ?_ _))) <;> (first | (simp; done) | (simp; omega) | omega)⟩
    show Num _ _ _ _ (limbs (oddN V))
    unfold oddN
    rw [hZ]
    exact Num.fill R3 h4.out _ _ _ _ _
end
end Go.Proofs.YtjlaadadbpffdaaGreatDoor
