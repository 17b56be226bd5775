/-
  dyad.open of one and of two, dyad.done.
-/
import Derived.Test.YtjlaadadbpffdaaGreatDoorDyA
set_option linter.unusedSimpArgs false
set_option linter.unusedVariables false
namespace Go.Plumb
open Go.RowKit
/-- But for two blocks, all old blocks stay. -/
def Apart (b b' : Nat) (w w' : World) : Prop := w.heap.size ≤ w'.heap.size ∧ ∀ k, k ≠ b → k ≠ b' → k < w.heap.size → w'.heap[k]? = w.heap[k]?
theorem Apart.refl (b b' : Nat) (w : World) : Apart b b' w w := ⟨Nat.le_refl _, fun _ _ _ _ => rfl⟩
theorem Apart.below {b b' : Nat} {w w1 w2 : World} (h : Apart b b' w w1) (hb : Below w1.heap.size w1 w2) : Apart b b' w w2 :=
  ⟨Nat.le_trans h.1 hb.size, fun k h1 h2 h3 => (hb.block k (Nat.lt_of_lt_of_le h3 h.1)).trans (h.2 k h1 h2 h3)⟩
theorem Apart.set {b b' : Nat} {w w1 : World} (h : Apart b b' w w1) {p : Addr} (hp : p.block = b ∨ p.block = b') (v : Value) : Apart b b' w (w1.setCell p v) :=
  ⟨by simpa using h.1, fun k h1 h2 h3 => (Below.heap_setCell w1 p v k (by rcases hp with h | h <;> omega)).trans (h.2 k h1 h2 h3)⟩
theorem Apart.fill {b b' k : Nat} {w w1 : World} (h : Apart b b' w w1) (hk : k = b ∨ k = b') (x y z : Value) : Apart b b' w (((w1.setCell ⟨k, 0, none⟩ x).setCell ⟨k, 1, none⟩ y).setCell ⟨k, 2, none⟩ z) := ((h.set hk x).set hk y).set hk z
theorem Apart.cell {b b' : Nat} {w w' : World} (h : Apart b b' w w') {k i : Nat} {v : Value} (hk : k ≠ b) (hk' : k ≠ b') (hc : w.cell? ⟨k, i, none⟩ = some v) : w'.cell? ⟨k, i, none⟩ = some v :=
  (World.cell?_of_block (a := ⟨k, i, none⟩) (h.2 k hk hk' (cell_lt hc))).trans hc
theorem Boxed3.apart {w w' : World} {b b' k : Nat} {s : Bool} {a : Option Addr} {n c : Nat} {e : Int} (h : Boxed3 w k s a n c e) (hA : Apart b b' w w') (hk : k ≠ b) (hk' : k ≠ b') : Boxed3 w' k s a n c e := by
  have hl := h.lt
  have hb := hA.2 k hk hk' hl
  obtain ⟨c0, c1, c2, f0, f1, f2⟩ := h
  exact ⟨hA.cell hk hk' c0, hA.cell hk hk' c1, hA.cell hk hk' c2, (World.frozen?_of_block (a := ⟨k, 0, none⟩) hb).trans f0, (World.frozen?_of_block (a := ⟨k, 1, none⟩) hb).trans f1, (World.frozen?_of_block (a := ⟨k, 2, none⟩) hb).trans f2⟩
end Go.Plumb
namespace Go.Proofs.YtjlaadadbpffdaaGreatDoor
open Go.RowKit Go.Plumb

set_option maxHeartbeats 2000000 in
theorem dopen1 (B g b : Nat) (s : Bool) (a : Option Addr) (n c : Nat) (l : List Nat) (e : Int) (w : World) (hB : B ≤ b) (hBw : B ≤ w.heap.size) (hgb : g ≠ b)
    (hp : w.cell? ⟨g, 0, none⟩ = some (.pointer (some ⟨b, 0, none⟩))) (hx : Boxed3 w b s a n c e) (hN : Num w a n c l) (hT : Tab w) (hl : l.length ≤ 4000) (he : mayE e) :
    Calls Tryz.prog 99 #[.slice (some ⟨g, 0, none⟩) 1 1] w fun x w' => ∃ a' n' c', x = .returned (.int .i64 0) ∧ Boxed3 w' b (nrm ⟨s, valL l, e⟩).s a' n' c' (nrm ⟨s, valL l, e⟩).e ∧ Num w' a' n' c' (limbs (nrm ⟨s, valL l, e⟩).m) ∧ Below B w w' ∧ Apart b b w w' := by
  have hM := may_any s e hN hl
  have hO := fun w' (hb : Below w.heap.size w w') => dnorm_any s e (hT.below hb) (hN.below hb) hl (by have := he.1; omega) (by have := he.2; omega)
  obtain ⟨X, hX⟩ : ∃ X, nrm ⟨s, valL l, e⟩ = X := ⟨_, rfl⟩
  rw [decide_eq_true he] at hM
  simp only [hX] at hO ⊢
  obtain ⟨xs, xm, xe⟩ := X
  simp only at hO ⊢
  clear hX hN hT he
  obtain ⟨x0, x1, x2, f0, f1, f2⟩ := id hx
  go_enter Tryz.func99, Tryz.ntmps99
  go_wp2_with fail
  go_loopw [7] (fun v wr => (v = .int .i64 0 ∧ wr = w) ∨ (v = .int .i64 1 ∧ ∃ a' n' c', Boxed3 wr b xs a' n' c' xe ∧ Num wr a' n' c' (limbs xm) ∧ Below B w wr ∧ Apart b b w wr)) (fun v _ => (1 - intOf v).toNat)
  case atStart => exact .inl ⟨rfl, rfl⟩
  case round =>
    rcases hrel with ⟨rfl, rfl⟩ | ⟨rfl, a', n', c', h1, h2, h3, h4⟩
    · go_wp2_with fail
      refine hM.mono ?_
      rintro x w1 ⟨rfl, hb1⟩
      have X1 := hx.below hb1
      have hO1 := hO _ hb1
      have hB1 := hb1.mono hBw
      have hB1' := hb1
      have A1 := (Apart.refl b b wr).below hb1
      clear hO hM hb1 hx x0 x1 x2 f0 f1 f2
      obtain ⟨x0, x1, x2, f0, f1, f2⟩ := id X1
      go_wp2_with fail
      refine hO1.mono ?_
      rintro x w2 ⟨a', n', c', rfl, h2, hb2⟩
      have X2 := X1.below hb2
      have hB2 := hB1.trans (hb2.mono (Nat.le_trans hBw hB1'.size))
      have A2 := A1.below hb2
      clear hO1 hb2 X1 x0 x1 x2 f0 f1 f2
      obtain ⟨x0, x1, x2, f0, f1, f2⟩ := id X2
      go_wp2_with fail
      exact ⟨.inr ⟨rfl, a', n', c', X2.fill .., Num.fill X2 h2 .., ((hB2.setCell (p := ⟨b, 0, none⟩) hB _).setCell (p := ⟨b, 1, none⟩) hB _).setCell (p := ⟨b, 2, none⟩) hB _, A2.fill (.inl rfl) _ _ _⟩, by simp [intOf]⟩
    · go_wp2_with fail
      go_ret
      exact ⟨a', n', c', rfl, h1, h2, h3, h4⟩
theorem dopen1_bad (g b k : Nat) (hk : 1 ≤ k) (hk2 : k ≤ 2) (s : Bool) (a : Option Addr) (n c : Nat) (l : List Nat) (e : Int) (w : World) (hgb : g ≠ b)
    (hp : w.cell? ⟨g, 0, none⟩ = some (.pointer (some ⟨b, 0, none⟩))) (hx : Boxed3 w b s a n c e) (hN : Num w a n c l) (hl : l.length ≤ 4000) (he : ¬ mayE e) :
    Calls Tryz.prog 99 #[.slice (some ⟨g, 0, none⟩) k k] w fun x w' => x = .returned (.int .i64 2) ∧ Below w.heap.size w w' := by
  have hM := may_any s e hN hl
  rw [decide_eq_false he] at hM
  clear hN he
  obtain ⟨x0, x1, x2, f0, f1, f2⟩ := id hx
  go_enter Tryz.func99, Tryz.ntmps99
  go_wp2_with fail
  go_loopw [7] (fun v wr => v = .int .i64 0 ∧ wr = w) (fun v _ => (1 - intOf v).toNat)
  case atStart => exact ⟨rfl, rfl⟩
  case round =>
    obtain ⟨rfl, rfl⟩ := hrel
    go_wp2_with fail
    refine hM.mono ?_
    rintro x w1 ⟨rfl, hb1⟩
    go_wp2_with fail
    go_ret
    exact ⟨rfl, hb1⟩
set_option maxHeartbeats 2000000 in
theorem dopen2 (B g b b' : Nat) (s s' : Bool) (a a' : Option Addr) (n c n' c' : Nat) (l l' : List Nat) (e e' : Int) (w : World) (hB : B ≤ b) (hB' : B ≤ b') (hBw : B ≤ w.heap.size) (hgb : g ≠ b) (hgb' : g ≠ b') (hbb : b ≠ b') (hbb' : b' ≠ b)
    (hp : w.cell? ⟨g, 0, none⟩ = some (.pointer (some ⟨b, 0, none⟩))) (hp' : w.cell? ⟨g, 1, none⟩ = some (.pointer (some ⟨b', 0, none⟩))) (hx : Boxed3 w b s a n c e) (hx' : Boxed3 w b' s' a' n' c' e') (hN : Num w a n c l) (hN' : Num w a' n' c' l')
    (hT : ∀ w', Below B w w' → Tab w') (hl : l.length ≤ 4000) (hl' : l'.length ≤ 4000) (he : mayE e) (he' : mayE e') :
    Calls Tryz.prog 99 #[.slice (some ⟨g, 0, none⟩) 2 2] w fun x w' => ∃ a1 n1 c1 a2 n2 c2, x = .returned (.int .i64 0) ∧ Boxed3 w' b (nrm ⟨s, valL l, e⟩).s a1 n1 c1 (nrm ⟨s, valL l, e⟩).e ∧ Num w' a1 n1 c1 (limbs (nrm ⟨s, valL l, e⟩).m) ∧
      Boxed3 w' b' (nrm ⟨s', valL l', e'⟩).s a2 n2 c2 (nrm ⟨s', valL l', e'⟩).e ∧ Num w' a2 n2 c2 (limbs (nrm ⟨s', valL l', e'⟩).m) ∧ Below B w w' ∧ Apart b b' w w' := by
  have hM := may_any s e hN hl
  have hO := fun w' (hb : Below w.heap.size w w') => dnorm_any s e (hT _ (hb.mono hBw)) (hN.below hb) hl (by have := he.1; omega) (by have := he.2; omega)
  have hM' := fun w' (hn : Num w' a' n' c' l') => may_any s' e' hn hl'
  have hO' := fun w' (hb : Below B w w') (hn : Num w' a' n' c' l') => dnorm_any s' e' (hT _ hb) hn hl' (by have := he'.1; omega) (by have := he'.2; omega)
  obtain ⟨X, hX⟩ : ∃ X, nrm ⟨s, valL l, e⟩ = X := ⟨_, rfl⟩
  obtain ⟨Y, hY⟩ : ∃ Y, nrm ⟨s', valL l', e'⟩ = Y := ⟨_, rfl⟩
  rw [decide_eq_true he] at hM
  simp only [decide_eq_true he'] at hM'
  simp only [hX] at hO ⊢
  simp only [hY] at hO' ⊢
  obtain ⟨xs, xm, xe⟩ := X
  obtain ⟨ys, ym, ye⟩ := Y
  simp only at hO hO' ⊢
  clear hX hY hN hT he he'
  have hgw := cell_lt hp
  have HN' := Lib.hid hN'
  clear hN'
  obtain ⟨x0, x1, x2, f0, f1, f2⟩ := id hx
  go_enter Tryz.func99, Tryz.ntmps99
  go_wp2_with fail
  go_loopw [7] (fun v wr => (v = .int .i64 0 ∧ wr = w) ∨ (v = .int .i64 1 ∧ ∃ a1 n1 c1, Boxed3 wr b xs a1 n1 c1 xe ∧ Num wr a1 n1 c1 (limbs xm) ∧ Boxed3 wr b' s' a' n' c' e' ∧ Num wr a' n' c' l' ∧ wr.cell? ⟨g, 1, none⟩ = some (.pointer (some ⟨b', 0, none⟩)) ∧ g < wr.heap.size ∧ Below B w wr ∧ Apart b b' w wr)
    ∨ (v = .int .i64 2 ∧ ∃ a1 n1 c1 a2 n2 c2, Boxed3 wr b xs a1 n1 c1 xe ∧ Num wr a1 n1 c1 (limbs xm) ∧ Boxed3 wr b' ys a2 n2 c2 ye ∧ Num wr a2 n2 c2 (limbs ym) ∧ Below B w wr ∧ Apart b b' w wr)) (fun v _ => (2 - intOf v).toNat)
  case atStart => exact .inl ⟨rfl, rfl⟩
  case round =>
    rcases hrel with ⟨rfl, rfl⟩ | ⟨rfl, a1, n1, c1, X1, N1, Y1, N2, hpr, hgr, hBr, hAr⟩ | ⟨rfl, a1, n1, c1, a2, n2, c2, h1, h2, h3, h4, h5, h6⟩
    · go_wp2_with fail
      refine hM.mono ?_
      rintro x w1 ⟨rfl, hb1⟩
      have X1 := hx.below hb1
      have Y1 := hx'.below hb1
      have N1 := HN'.out.below hb1
      have hp1 : w1.cell? ⟨g, 1, none⟩ = some (.pointer (some ⟨b', 0, none⟩)) := by rw [(bcell hb1).1 _ _ hgw]; exact hp'
      have hO1 := hO _ hb1
      have hB1 := hb1.mono hBw
      have hs1 := hb1.size
      have A1 := (Apart.refl b b' wr).below hb1
      clear hO hM hb1 hx hx' x0 x1 x2 f0 f1 f2 hO' hM' hp hp'
      obtain ⟨x0, x1, x2, f0, f1, f2⟩ := id X1
      go_wp2_with fail
      refine hO1.mono ?_
      rintro x w2 ⟨a1, n1, c1, rfl, h2, hb2⟩
      have X2 := X1.below hb2
      have Y2 := Y1.below hb2
      have N2 := N1.below hb2
      have hp2 : w2.cell? ⟨g, 1, none⟩ = some (.pointer (some ⟨b', 0, none⟩)) := by rw [(bcell hb2).1 _ _ (by omega)]; exact hp1
      have hB2 := hB1.trans (hb2.mono (Nat.le_trans hBw hs1))
      have hs2 := hb2.size
      have A2 := A1.below hb2
      clear hO1 hb2 X1 Y1 N1 hp1 x0 x1 x2 f0 f1 f2
      obtain ⟨x0, x1, x2, f0, f1, f2⟩ := id X2
      go_wp2_with fail
      refine ⟨.inr (.inl ⟨rfl, a1, n1, c1, X2.fill .., Num.fill X2 h2 .., ((Y2.other hbb _ _).other hbb _ _).other hbb _ _, Num.fill X2 N2 .., ?_, ?_, ((hB2.setCell (p := ⟨b, 0, none⟩) hB _).setCell (p := ⟨b, 1, none⟩) hB _).setCell (p := ⟨b, 2, none⟩) hB _, A2.fill (.inl rfl) _ _ _⟩), by simp [intOf]⟩
      · rw [World.cell?_setCell_other _ _ _ _ (by first | (simp; done) | (simp; omega)), World.cell?_setCell_other _ _ _ _ (by first | (simp; done) | (simp; omega)), World.cell?_setCell_other _ _ _ _ (by first | (simp; done) | (simp; omega))]
        exact hp2
      · simp; omega
    · have hM1 := hM' _ N2
      have hO1 := fun w' (hb : Below wr.heap.size wr w') => hO' w' (hBr.trans (hb.mono (Nat.le_trans hBw hBr.size))) (N2.below hb)
      clear hM hO hM' hO' hx hx' x0 x1 x2 f0 f1 f2 hp hp'
      obtain ⟨x0, x1, x2, f0, f1, f2⟩ := id Y1
      go_wp2_with fail
      refine hM1.mono ?_
      rintro x w1 ⟨rfl, hb1⟩
      have X2 := X1.below hb1
      have Y2 := Y1.below hb1
      have N3 := N1.below hb1
      have hO2 := hO1 _ hb1
      have hB1 := hBr.trans (hb1.mono (Nat.le_trans hBw hBr.size))
      have A1 := hAr.below hb1
      clear hO1 hM1 hb1 X1 Y1 N1 N2 hBr x0 x1 x2 f0 f1 f2
      obtain ⟨x0, x1, x2, f0, f1, f2⟩ := id Y2
      go_wp2_with fail
      refine hO2.mono ?_
      rintro x w2 ⟨a2, n2, c2, rfl, h2, hb2⟩
      have X3 := X2.below hb2
      have Y3 := Y2.below hb2
      have N4 := N3.below hb2
      have hB2 := hB1.trans (hb2.mono (Nat.le_trans hBw hB1.size))
      have A2 := A1.below hb2
      clear hO2 hb2 X2 Y2 N3 hB1 x0 x1 x2 f0 f1 f2
      obtain ⟨x0, x1, x2, f0, f1, f2⟩ := id Y3
      go_wp2_with fail
      exact ⟨.inr (.inr ⟨rfl, a1, n1, c1, a2, n2, c2, ((X3.other hbb' _ _).other hbb' _ _).other hbb' _ _, Num.fill Y3 N4 .., Y3.fill .., Num.fill Y3 h2 .., ((hB2.setCell (p := ⟨b', 0, none⟩) hB' _).setCell (p := ⟨b', 1, none⟩) hB' _).setCell (p := ⟨b', 2, none⟩) hB' _, A2.fill (.inr rfl) _ _ _⟩), by simp [intOf]⟩
    · go_wp2_with fail
      go_ret
      exact ⟨a1, n1, c1, a2, n2, c2, rfl, h1, h2, h3, h4, h5, h6⟩
set_option maxHeartbeats 2000000 in
theorem dopen2_bad (B g b b' : Nat) (s s' : Bool) (a a' : Option Addr) (n c n' c' : Nat) (l l' : List Nat) (e e' : Int) (w : World) (hB : B ≤ b) (hB' : B ≤ b') (hBw : B ≤ w.heap.size) (hgb : g ≠ b) (hgb' : g ≠ b') (hbb : b ≠ b') (hbb' : b' ≠ b)
    (hp : w.cell? ⟨g, 0, none⟩ = some (.pointer (some ⟨b, 0, none⟩))) (hp' : w.cell? ⟨g, 1, none⟩ = some (.pointer (some ⟨b', 0, none⟩))) (hx : Boxed3 w b s a n c e) (hx' : Boxed3 w b' s' a' n' c' e') (hN : Num w a n c l) (hN' : Num w a' n' c' l')
    (hT : ∀ w', Below B w w' → Tab w') (hl : l.length ≤ 4000) (hl' : l'.length ≤ 4000) (he : mayE e) (he' : ¬ mayE e') :
    Calls Tryz.prog 99 #[.slice (some ⟨g, 0, none⟩) 2 2] w fun x w' => x = .returned (.int .i64 2) ∧ Below B w w' ∧ Apart b b' w w' := by
  have hM := may_any s e hN hl
  have hO := fun w' (hb : Below w.heap.size w w') => dnorm_any s e (hT _ (hb.mono hBw)) (hN.below hb) hl (by have := he.1; omega) (by have := he.2; omega)
  have hM' := fun w' (hn : Num w' a' n' c' l') => may_any s' e' hn hl'
  obtain ⟨X, hX⟩ : ∃ X, nrm ⟨s, valL l, e⟩ = X := ⟨_, rfl⟩
  rw [decide_eq_true he] at hM
  simp only [decide_eq_false he'] at hM'
  simp only [hX] at hO
  obtain ⟨xs, xm, xe⟩ := X
  simp only at hO
  clear hX hN hT he he'
  have hgw := cell_lt hp
  have HN' := Lib.hid hN'
  clear hN'
  obtain ⟨x0, x1, x2, f0, f1, f2⟩ := id hx
  go_enter Tryz.func99, Tryz.ntmps99
  go_wp2_with fail
  go_loopw [7] (fun v wr => (v = .int .i64 0 ∧ wr = w) ∨ (v = .int .i64 1 ∧ ∃ a1 n1 c1, Boxed3 wr b xs a1 n1 c1 xe ∧ Num wr a1 n1 c1 (limbs xm) ∧ Boxed3 wr b' s' a' n' c' e' ∧ Num wr a' n' c' l' ∧ wr.cell? ⟨g, 1, none⟩ = some (.pointer (some ⟨b', 0, none⟩)) ∧ g < wr.heap.size ∧ Below B w wr ∧ Apart b b' w wr)) (fun v _ => (2 - intOf v).toNat)
  case atStart => exact .inl ⟨rfl, rfl⟩
  case round =>
    rcases hrel with ⟨rfl, rfl⟩ | ⟨rfl, a1, n1, c1, X1, N1, Y1, N2, hpr, hgr, hBr, hAr⟩
    · go_wp2_with fail
      refine hM.mono ?_
      rintro x w1 ⟨rfl, hb1⟩
      have X1 := hx.below hb1
      have Y1 := hx'.below hb1
      have N1 := HN'.out.below hb1
      have hp1 : w1.cell? ⟨g, 1, none⟩ = some (.pointer (some ⟨b', 0, none⟩)) := by rw [(bcell hb1).1 _ _ hgw]; exact hp'
      have hO1 := hO _ hb1
      have hB1 := hb1.mono hBw
      have hs1 := hb1.size
      have A1 := (Apart.refl b b' wr).below hb1
      clear hO hM hb1 hx hx' x0 x1 x2 f0 f1 f2 hM' hp hp'
      obtain ⟨x0, x1, x2, f0, f1, f2⟩ := id X1
      go_wp2_with fail
      refine hO1.mono ?_
      rintro x w2 ⟨a1, n1, c1, rfl, h2, hb2⟩
      have X2 := X1.below hb2
      have Y2 := Y1.below hb2
      have N2 := N1.below hb2
      have hp2 : w2.cell? ⟨g, 1, none⟩ = some (.pointer (some ⟨b', 0, none⟩)) := by rw [(bcell hb2).1 _ _ (by omega)]; exact hp1
      have hB2 := hB1.trans (hb2.mono (Nat.le_trans hBw hs1))
      have hs2 := hb2.size
      have A2 := A1.below hb2
      clear hO1 hb2 X1 Y1 N1 hp1 x0 x1 x2 f0 f1 f2
      obtain ⟨x0, x1, x2, f0, f1, f2⟩ := id X2
      go_wp2_with fail
      refine ⟨.inr (⟨rfl, a1, n1, c1, X2.fill .., Num.fill X2 h2 .., ((Y2.other hbb _ _).other hbb _ _).other hbb _ _, Num.fill X2 N2 .., ?_, ?_, ((hB2.setCell (p := ⟨b, 0, none⟩) hB _).setCell (p := ⟨b, 1, none⟩) hB _).setCell (p := ⟨b, 2, none⟩) hB _, A2.fill (.inl rfl) _ _ _⟩), by simp [intOf]⟩
      · rw [World.cell?_setCell_other _ _ _ _ (by first | (simp; done) | (simp; omega)), World.cell?_setCell_other _ _ _ _ (by first | (simp; done) | (simp; omega)), World.cell?_setCell_other _ _ _ _ (by first | (simp; done) | (simp; omega))]
        exact hp2
      · simp; omega
    · have hM1 := hM' _ N2
      clear hM hO hM' hx hx' x0 x1 x2 f0 f1 f2 hp hp'
      obtain ⟨x0, x1, x2, f0, f1, f2⟩ := id Y1
      go_wp2_with fail
      refine hM1.mono ?_
      rintro x w1 ⟨rfl, hb1⟩
      go_wp2_with fail
      go_ret
      exact ⟨rfl, hBr.trans (hb1.mono (Nat.le_trans hBw hBr.size)), hAr.below hb1⟩
set_option maxHeartbeats 1000000 in
theorem ddone_any {w : World} {a : Option Addr} {n c : Nat} {l : List Nat} (s : Bool) (e : Int) (hT : Tab w) (h1 : Num w a n c l) (hl : l.length ≤ 4000) (he0 : -1000000000 ≤ e) (he1 : e ≤ 1000000000) :
    Calls Tryz.prog 107 #[.agg #[.bool s, .slice a n c, .int .i64 e]] w fun x w' => ∃ a' n' c', x = .returned (.tuple #[.agg #[.bool (doneO ⟨s, valL l, e⟩).1.s, .slice a' n' c', .int .i64 (doneO ⟨s, valL l, e⟩).1.e], .int .i64 (doneO ⟨s, valL l, e⟩).2]) ∧ Num w' a' n' c' (limbs (doneO ⟨s, valL l, e⟩).1.m) ∧ Below w.heap.size w w' := by
  have hO := fun w' (hb : Below w.heap.size w w') => dnorm_any s e (hT.below hb) (h1.below hb) hl he0 he1
  have hlen : (limbs (nrm ⟨s, valL l, e⟩).m).length ≤ 4000 := by rw [nrm_m]; exact Nat.le_trans (len_odd h1.limbs) hl
  unfold doneO
  obtain ⟨X, hX⟩ : ∃ X, nrm ⟨s, valL l, e⟩ = X := ⟨_, rfl⟩
  simp only [hX] at hO hlen ⊢
  obtain ⟨xs, xm, xe⟩ := X
  have hM := fun w' a' n' c' (hn : Num w' a' n' c' (limbs xm)) => may_any xs xe hn hlen
  simp only at hO ⊢
  clear hX h1 hT hlen
  have X0 := (Boxed3.new w s a n c e 24 rfl).alloc (.cells #[.bool false, .slice none 0 0, .int .i64 0] 24)
  have R0 := Boxed3.new (w.alloc (.cells #[.bool s, .slice a n c, .int .i64 e] 24)) false none 0 0 0 24 (g := w.heap.size + 1) (by simp)
  by_cases hm : mayE xe
  all_goals (first | rw [if_pos hm] | rw [if_neg hm])
  all_goals (first | simp only [decide_eq_true hm] at hM | simp only [decide_eq_false hm] at hM)
  all_goals clear hm
  all_goals go_enter Tryz.func107, Tryz.ntmps107
  all_goals go_wp2_with fail
  all_goals refine (hO _ (by (repeat' (first | exact Below.refl _ _ | assumption | (refine below_alloc ?_ _) | (refine Below.setCell ?_ ?_ _) | (refine Below.drew ?_) | (refine below_drewN ?_ _))) <;> (first | (simp; done) | (simp; omega) | omega))).mono ?_
  all_goals rintro x w1 ⟨a', n', c', rfl, hn, hb1⟩
  all_goals have hB1 := below_step (w0 := w) (by (repeat' (first | exact Below.refl _ _ | assumption | (refine below_alloc ?_ _) | (refine Below.setCell ?_ ?_ _) | (refine Below.drew ?_) | (refine below_drewN ?_ _))) <;> (first | (simp; done) | (simp; omega) | omega)) hb1
  all_goals have X1 := X0.below hb1
  all_goals have R1 := R0.below hb1
  all_goals have N1 := Num.fill X1 hn xs a' n' c' xe
  all_goals have X2 := X1.fill xs a' n' c' xe
  all_goals have R2 := ((R1.other (k := w.heap.size) (by omega) 0 (.bool xs)).other (k := w.heap.size) (by omega) 1 (.slice a' n' c')).other (k := w.heap.size) (by omega) 2 (.int .i64 xe)
  all_goals have hM1 := hM _ a' n' c' N1
  all_goals clear hn X0 R0 hb1 hM
  all_goals obtain ⟨x0, x1, x2, f0, f1, f2⟩ := id X1
  all_goals go_wp2_with fail
  all_goals refine hM1.mono ?_
  all_goals rintro x w2 ⟨rfl, hb2⟩
  all_goals have X3 := X2.below hb2
  all_goals have R3 := R2.below hb2
  all_goals have N3 := Lib.hid (N1.below hb2)
  all_goals have hB3 := below_step (w0 := w) (by (repeat' (first | exact Below.refl _ _ | assumption | (refine below_alloc ?_ _) | (refine Below.setCell ?_ ?_ _) | (refine Below.drew ?_) | (refine below_drewN ?_ _))) <;> (first | (simp; done) | (simp; omega) | omega)) hb2
  all_goals clear hb2 hM1 X1 X2 R1 R2 N1 x0 x1 x2 f0 f1 f2
  all_goals obtain ⟨x0, x1, x2, f0, f1, f2⟩ := id X3
  all_goals obtain ⟨r0, r1, r2, g0, g1, g2⟩ := id R3
  all_goals go_wp2_with fail
  · refine bodyPost_ret (v := .tuple #[.agg #[.bool xs, .slice a' n' c', .int .i64 xe], .int .i64 0]) (by simp [results, Tryz.results107, go_sem, r0, r1, r2, g0, g1, g2, x0, x1, x2]) rfl ⟨a', n', c', rfl, Num.fill R3 N3.out .., by (repeat' (first | exact Below.refl _ _ | assumption | (refine below_alloc ?_ _) | (refine Below.setCell ?_ ?_ _) | (refine Below.drew ?_) | (refine below_drewN ?_ _))) <;> (first | (simp; done) | (simp; omega) | omega)⟩
  · refine bodyPost_ret (v := .tuple #[.agg #[.bool false, .slice none 0 0, .int .i64 0], .int .i64 3]) (by simp [results, Tryz.results107, go_sem, r0, r1, r2, g0, g1, g2]) rfl ⟨none, 0, 0, rfl, by show Num _ _ _ _ (limbs 0); rw [limbs_zero]; exact Num.nil _, by (repeat' (first | exact Below.refl _ _ | assumption | (refine below_alloc ?_ _) | (refine Below.setCell ?_ ?_ _) | (refine Below.drew ?_) | (refine below_drewN ?_ _))) <;> (first | (simp; done) | (simp; omega) | omega)⟩
end Go.Proofs.YtjlaadadbpffdaaGreatDoor
