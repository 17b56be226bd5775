/-
  SfA, SfB, SfC, SfD, SfDq, SfDr: as one text.
-/
import Derived.Test.YtjlaadadbpffdaaDoorDyM
import Derived.Test.YtjlaadadbpffdaaDoorSoftM
set_option linter.unusedSimpArgs false
set_option linter.unusedVariables false
namespace Go.Plumb
theorem classI_one (x : Int) : classI (oneI x) = classI x := by
  unfold oneI
  split
  · rename_i h; rw [h]; decide
  · rfl
theorem oneI_lt (x : Nat) (hx : x < 18446744073709551616) : 0 ≤ oneI (x : Int) ∧ oneI (x : Int) < 18446744073709551616 := by
  unfold oneI nanW
  split <;> omega
theorem negI_one (x : Int) : negI (oneI x) = negI x := by
  unfold oneI
  split
  · rename_i h
    have e : negI x = nanW := by unfold negI; rw [if_pos h]
    rw [e]; decide
  · rfl
/-- The sign bit, as the program reads it: a NaN has none. -/
def minusW (x : Nat) : Bool := decide (oneI (x : Int) / 9223372036854775808 = 1)
theorem minusW_eq (x : Nat) (h : classI (x : Int) ≠ 5) : minusW x = negW x := by
  unfold minusW negW oneI
  rw [if_neg h]
  by_cases h0 : x / 9223372036854775808 = 1
  · rw [h0]; simp; omega
  · have h1 : ¬ ((x : Int) / 9223372036854775808 = 1) := by omega
    simp [h0, h1]
theorem cls_pairs (x : Nat) : (classI (x : Int) = 1 ∧ clsI x = 0) ∨ (classI (x : Int) = 2 ∧ clsI x = 1) ∨ (classI (x : Int) = 3 ∧ clsI x = 1) ∨ (classI (x : Int) = 4 ∧ clsI x = 2) ∨ (classI (x : Int) = 5 ∧ clsI x = 3) := by
  have := classI_cases (x : Int)
  unfold clsI
  rcases this with h | h | h | h | h <;> rw [h] <;> simp
end Go.Plumb
namespace Go.Proofs.YtjlaadadbpffdaaDoor
open Go.RowKit Go.Plumb
section
variable {w : World} {a : Option Addr} {n c : Nat} {l : List Nat}
set_option maxHeartbeats 1000000 in
theorem sclass_any (x : Nat) (w : World) (hx : x < 18446744073709551616) :
    Calls Tryd.prog 29 #[.float .f64 x] w fun z w' => z = .returned (.int .i64 (clsI x)) ∧ w = w' := by
  have hO := fun w => of_any x w hx
  have hC := fun w => class_any (oneI (x : Int)) w (oneI_lt x hx).1 (oneI_lt x hx).2
  simp only [classI_one] at hC
  have hp := cls_pairs x
  generalize oneI (x : Int) = X at hO hC
  generalize classI (x : Int) = q at hC hp
  generalize clsI x = z at hp ⊢
  clear hx
  rcases hp with ⟨rfl, rfl⟩ | ⟨rfl, rfl⟩ | ⟨rfl, rfl⟩ | ⟨rfl, rfl⟩ | ⟨rfl, rfl⟩
  all_goals go_enter Tryd.func29, Tryd.ntmps29
  all_goals go_wp2_with fail
  all_goals refine (hO _).mono ?_
  all_goals rintro z w' ⟨rfl, rfl⟩
  all_goals go_wp2_with fail
  all_goals refine (hC _).mono ?_
  all_goals rintro z w' ⟨rfl, rfl⟩
  all_goals go_wp2_with fail
  all_goals go_ret
  all_goals exact ⟨rfl, rfl⟩
theorem sminus_any (x : Nat) (w : World) (hx : x < 18446744073709551616) :
    Calls Tryd.prog 30 #[.float .f64 x] w fun z w' => z = .returned (.bool (minusW x)) ∧ w = w' := by
  have hO := fun w => of_any x w hx
  obtain ⟨h0, h1⟩ := oneI_lt x hx
  obtain ⟨b, hb⟩ : ∃ b, minusW x = b := ⟨_, rfl⟩
  rw [hb]
  unfold minusW at hb
  generalize oneI (x : Int) = X at hO h0 h1 hb
  clear hx
  by_cases hs : X / 9223372036854775808 = 1
  · obtain rfl : true = b := by rw [← hb]; exact (decide_eq_true hs).symm
    clear hb
    go_enter Tryd.func30, Tryd.ntmps30
    go_wp2_with fail
    refine (hO _).mono ?_
    rintro z w' ⟨rfl, rfl⟩
    go_wp2_with fail
    go_ret
    simp [hs]
  · obtain rfl : false = b := by rw [← hb]; exact (decide_eq_false hs).symm
    clear hb
    go_enter Tryd.func30, Tryd.ntmps30
    go_wp2_with fail
    refine (hO _).mono ?_
    rintro z w' ⟨rfl, rfl⟩
    go_wp2_with fail
    go_ret
    simp [hs]
theorem signed_any (x : Nat) (neg : Bool) (w : World) (hx : x < 18446744073709551616) :
    Calls Tryd.prog 32 #[.float .f64 x, .bool neg] w fun z w' => z = .returned (.float .f64 (sgnW x neg)) ∧ w = w' := by
  have hO := fun w => of_any x w hx
  have hN := fun w => negate_any (oneI (x : Int)) w (oneI_lt x hx).1 (oneI_lt x hx).2
  simp only [negI_one] at hN
  have hF := fun w => float_any (negI (x : Int)) w
  unfold sgnW
  generalize oneI (x : Int) = X at hO hN
  generalize negI (x : Int) = Y at hN hF ⊢
  clear hx
  cases neg
  · go_enter Tryd.func32, Tryd.ntmps32
    go_wp2_with fail
    go_ret
    exact ⟨rfl, rfl⟩
  · go_enter Tryd.func32, Tryd.ntmps32
    go_wp2_with fail
    refine (hO _).mono ?_
    rintro z w' ⟨rfl, rfl⟩
    go_wp2_with fail
    refine (hN _).mono ?_
    rintro z w' ⟨rfl, rfl⟩
    go_wp2_with fail
    refine (hF _).mono ?_
    rintro z w' ⟨rfl, rfl⟩
    go_wp2_with fail
    go_ret
    exact ⟨rfl, rfl⟩
theorem snan_any (w : World) : Calls Tryd.prog 31 #[] w fun z w' => z = .returned (.float .f64 nanN) ∧ w = w' := by
  have hF := fun w => float_any 9221120237041090560 w
  go_enter Tryd.func31, Tryd.ntmps31
  go_wp2_with fail
  refine (hF _).mono ?_
  rintro z w' ⟨rfl, rfl⟩
  go_wp2_with fail
  go_ret
  exact ⟨rfl, rfl⟩
set_option maxHeartbeats 1000000 in
theorem sof_any (x : Nat) (hx : x < 18446744073709551616) (hc : classI (x : Int) ≤ 3) (hT : Tab w) :
    Calls Tryd.prog 35 #[.float .f64 x] w fun z w' => ∃ a' n' c', z = .returned (.agg #[.bool (nrm (dyW x)).s, .slice a' n' c', .int .i64 (nrm (dyW x)).e]) ∧ Num w' a' n' c' (limbs (nrm (dyW x)).m) ∧ Below w.heap.size w w' := by
  have R0 := Boxed3.new w false none 0 0 0 37 (g := w.heap.size) rfl
  have hO := fun w' (hb : Below w.heap.size w w') => dOf_any x hx hc (hT.below hb)
  obtain ⟨Y, hY⟩ : ∃ Y, nrm (dyW x) = Y := ⟨_, rfl⟩
  simp only [hY] at hO ⊢
  clear hY hT hc hx
  go_enter Tryd.func35, Tryd.ntmps35
  go_wp2_with fail
  refine (hO _ (by repeat' (first | exact Below.refl _ _ | refine below_alloc ?_ _))).mono ?_
  rintro z w1 ⟨a1, n1, c1, rfl, N1, hb⟩
  have R1 := (R0.below hb).alloc (.cells #[.bool Y.s, .slice a1 n1 c1, .int .i64 Y.e] 37)
  have hB1 := below_step (w0 := w) (by (repeat' (first | exact Below.refl _ _ | assumption | (refine below_alloc ?_ _) | (refine Below.setCell ?_ ?_ _) | (refine Below.drew ?_) | (refine below_drewN ?_ _))) <;> (first | (simp; done) | (simp; omega) | omega)) hb
  have N2 := N1.below (w' := w1.alloc (.cells #[.bool Y.s, .slice a1 n1 c1, .int .i64 Y.e] 37)) (below_alloc (Below.refl _ _) _)
  obtain ⟨r0, r1, r2, g0, g1, g2⟩ := id R1
  clear hO R0 hb
  go_wp2_with fail
  exact bodyPost_ret (v := .agg #[.bool Y.s, .slice a1 n1 c1, .int .i64 Y.e]) (by simp [results, Tryd.results35, go_sem, r0, r1, r2, g0, g1, g2]) rfl ⟨a1, n1, c1, rfl, Num.fill R1 N2 .., by (repeat' (first | exact Below.refl _ _ | assumption | (refine below_alloc ?_ _) | (refine Below.setCell ?_ ?_ _) | (refine Below.drew ?_) | (refine below_drewN ?_ _))) <;> (first | (simp; done) | (simp; omega) | omega)⟩
theorem rounded_any (s : Bool) (e r : Int) (W : Nat) (hT : Tab w) (h1 : Num w a n c l) (hl : l.length ≤ 4000) (hm : mayE e) (hW : rndD (nrm ⟨s, valL l, e⟩) = W) :
    Calls Tryd.prog 33 #[.agg #[.bool s, .slice a n c, .int .i64 e], .int .i64 r] w fun z w' => z = .returned (.float .f64 W) ∧ Below w.heap.size w w' := by
  subst hW
  have X0 := Boxed3.new w s a n c e 37 (g := w.heap.size) rfl
  have hF := fun w' (hb : Below w.heap.size w w') => dFloat_any s e (hT.below hb) (h1.below hb) hl hm
  generalize rndD (nrm ⟨s, valL l, e⟩) = W at hF ⊢
  obtain ⟨x0, x1, x2, _, _, _⟩ := id X0
  clear hT h1 hl hm X0
  go_enter Tryd.func33, Tryd.ntmps33
  go_wp2_with fail
  refine (hF _ (by repeat' (first | exact Below.refl _ _ | refine below_alloc ?_ _))).mono ?_
  rintro z w1 ⟨rfl, hb⟩
  clear hF
  go_wp2_with fail
  go_ret
  exact ⟨rfl, below_step (w0 := w) (by (repeat' (first | exact Below.refl _ _ | assumption | (refine below_alloc ?_ _) | (refine Below.setCell ?_ ?_ _) | (refine Below.drew ?_) | (refine below_drewN ?_ _))) <;> (first | (simp; done) | (simp; omega) | omega)) hb⟩
end
end Go.Proofs.YtjlaadadbpffdaaDoor

namespace Go.Plumb
/-- What open makes of a dyad that may be: its normal one, if that one may be. -/
noncomputable def opnD (x : Dy) : Dy := if mayE (nrm x).e then nrm x else x
theorem nrm_opn (x : Dy) : nrm (opnD x) = nrm x := by
  unfold opnD
  split
  · exact nrm_nrm x
  · rfl
theorem norm_opn {x R R1 : Dy} {r : Int} (hm : mayE x.e) (hR : opnD x = R) (hO : normO x = (R1, r)) : (r = 0 ∧ R1 = R ∧ (limbs R1.m).length ≤ (limbs x.m).length) ∨ (r = 3 ∧ x = R) := by
  unfold opnD at hR
  unfold normO doneO at hO
  rw [if_pos hm] at hO
  by_cases h : mayE (nrm x).e
  · rw [if_pos h] at hR hO
    left
    have e1 : nrm x = R1 := congrArg Prod.fst hO
    have e2 : (0 : Int) = r := congrArg Prod.snd hO
    refine ⟨e2.symm, by rw [← e1, hR], ?_⟩
    rw [← e1, nrm_m]
    exact length_mono (oddN_le _)
  · rw [if_neg h] at hR hO
    right
    exact ⟨(congrArg Prod.snd hO).symm, hR⟩
end Go.Plumb
namespace Go.Proofs.YtjlaadadbpffdaaDoor
open Go.RowKit Go.Plumb
set_option maxHeartbeats 2000000 in
theorem sopen1 (B g b : Nat) (s : Bool) (a : Option Addr) (n c : Nat) (l : List Nat) (e : Int) (w : World) (R : Dy) (hR : opnD ⟨s, valL l, e⟩ = R) (hB : B ≤ b) (hBw : B ≤ w.heap.size) (hgb : g ≠ b)
    (hp : w.cell? ⟨g, 0, none⟩ = some (.pointer (some ⟨b, 0, none⟩))) (hx : Boxed3 w b s a n c e) (hN : Num w a n c l) (hT : Tab w) (hl : l.length ≤ 4000) (he : mayE e) :
    Calls Tryd.prog 47 #[.slice (some ⟨g, 0, none⟩) 1 1] w fun x w' => ∃ a' n' c' l', x = .returned (.int .i64 0) ∧ Boxed3 w' b R.s a' n' c' R.e ∧ Num w' a' n' c' l' ∧ (valL l' = R.m ∧ l'.length ≤ l.length) ∧ Below B w w' ∧ Apart b b w w' := by
  have hM := may_any s e hN hl
  have hO := fun w' (hb : Below w.heap.size w w') => dNorm_any s e (hT.below hb) (hN.below hb) hl
  obtain ⟨R1, r, hr⟩ : ∃ R1 r, normO ⟨s, valL l, e⟩ = (R1, r) := ⟨_, _, rfl⟩
  have hC := norm_opn (by exact he) hR hr
  have hlen : (limbs (valL l)).length ≤ l.length := len_of hN.limbs
  rw [decide_eq_true he] at hM
  simp only [hr] at hO
  have HN := Lib.hid hN
  have HC := Lib.hid (And.intro hC hlen)
  clear hN hT he hr hC hlen hR
  obtain ⟨x0, x1, x2, f0, f1, f2⟩ := id hx
  go_enter Tryd.func47, Tryd.ntmps47
  go_wp2_with fail
  go_loopw [9] (fun v wr => (v = .int .i64 0 ∧ wr = w) ∨ (v = .int .i64 1 ∧ ∃ a' n' c' l', Boxed3 wr b R.s a' n' c' R.e ∧ Num wr a' n' c' l' ∧ (valL l' = R.m ∧ l'.length ≤ l.length) ∧ Below B w wr ∧ Apart b b w wr)) (fun v _ => (1 - intOf v).toNat)
  case atStart => exact .inl ⟨rfl, rfl⟩
  case round =>
    rcases hrel with ⟨rfl, rfl⟩ | ⟨rfl, a', n', c', l', h1, h2, h3, h4, h5⟩
    · go_wp2_with fail
      refine hM.mono ?_
      rintro x w1 ⟨rfl, hb1⟩
      have X1 := hx.below hb1
      have hO1 := hO _ hb1
      have hB1 := hb1.mono hBw
      have hB1' := hb1
      have A1 := (Apart.refl b b wr).below hb1
      have N1 := Lib.hid (HN.out.below hb1)
      clear hO hM hb1 hx x0 x1 x2 f0 f1 f2
      obtain ⟨x0, x1, x2, f0, f1, f2⟩ := id X1
      go_wp2_with fail
      refine hO1.mono ?_
      rintro x w2 ⟨a', n', c', rfl, h2, hb2⟩
      have hb3 := below_alloc hb2 (.cells #[.bool R1.s, .slice a' n' c', .int .i64 R1.e] 37)
      have X2 := X1.below hb3
      have hB2 := hB1.trans (hb3.mono (Nat.le_trans hBw hB1'.size))
      have A2 := A1.below hb3
      have N2 := Lib.hid (N1.out.below hb3)
      have N3 := Lib.hid (h2.below (below_alloc (Below.refl _ _) (.cells #[.bool R1.s, .slice a' n' c', .int .i64 R1.e] 37)))
      clear hO1 hb2 hb3 X1 N1 h2 hB1 A1 x0 x1 x2 f0 f1 f2
      obtain ⟨x0, x1, x2, f0, f1, f2⟩ := id X2
      rcases HC.out.1 with ⟨rfl, rfl, hle⟩ | ⟨rfl, rfl⟩
      · have HLE := Lib.hid (Nat.le_trans hle HC.out.2)
        clear HC hle
        go_wp2_with fail
        exact ⟨.inr ⟨rfl, a', n', c', limbs R1.m, X2.fill .., Num.fill X2 N3.out .., ⟨valL_limbs _, HLE.out⟩, ((hB2.setCell (p := ⟨b, 0, none⟩) hB _).setCell (p := ⟨b, 1, none⟩) hB _).setCell (p := ⟨b, 2, none⟩) hB _, A2.fill (.inl rfl) _ _ _⟩, by simp [intOf]⟩
      · clear HC
        go_wp2_with fail
        exact ⟨.inr ⟨rfl, a, n, c, l, X2, N2.out, ⟨rfl, Nat.le_refl _⟩, hB2, A2⟩, by simp [intOf]⟩
    · go_wp2_with fail
      go_ret
      exact ⟨a', n', c', l', rfl, h1, h2, h3, h4, h5⟩
theorem sopen_bad (g b k : Nat) (hk : 1 ≤ k) (hk2 : k ≤ 2) (s : Bool) (a : Option Addr) (n c : Nat) (l : List Nat) (e : Int) (w : World) (hgb : g ≠ b)
    (hp : w.cell? ⟨g, 0, none⟩ = some (.pointer (some ⟨b, 0, none⟩))) (hx : Boxed3 w b s a n c e) (hN : Num w a n c l) (hl : l.length ≤ 4000) (he : ¬ mayE e) :
    Calls Tryd.prog 47 #[.slice (some ⟨g, 0, none⟩) k k] w fun x w' => x = .returned (.int .i64 2) ∧ Below w.heap.size w w' := by
  have hM := may_any s e hN hl
  rw [decide_eq_false he] at hM
  clear hN he
  obtain ⟨x0, x1, x2, f0, f1, f2⟩ := id hx
  go_enter Tryd.func47, Tryd.ntmps47
  go_wp2_with fail
  go_loopw [9] (fun v wr => v = .int .i64 0 ∧ wr = w) (fun v _ => (1 - intOf v).toNat)
  case atStart => exact ⟨rfl, rfl⟩
  case round =>
    obtain ⟨rfl, rfl⟩ := hrel
    go_wp2_with fail
    refine hM.mono ?_
    rintro x w1 ⟨rfl, hb1⟩
    go_wp2_with fail
    go_ret
    exact ⟨rfl, hb1⟩
set_option maxHeartbeats 4000000 in
theorem sopen2 (B g b b' : Nat) (s s' : Bool) (a a' : Option Addr) (n c n' c' : Nat) (l l' : List Nat) (e e' : Int) (w : World) (R R' : Dy) (hR : opnD ⟨s, valL l, e⟩ = R) (hR' : opnD ⟨s', valL l', e'⟩ = R') (hB : B ≤ b) (hB' : B ≤ b') (hBw : B ≤ w.heap.size) (hgb : g ≠ b) (hgb' : g ≠ b') (hbb : b ≠ b') (hbb' : b' ≠ b)
    (hp : w.cell? ⟨g, 0, none⟩ = some (.pointer (some ⟨b, 0, none⟩))) (hp' : w.cell? ⟨g, 1, none⟩ = some (.pointer (some ⟨b', 0, none⟩))) (hx : Boxed3 w b s a n c e) (hx' : Boxed3 w b' s' a' n' c' e') (hN : Num w a n c l) (hN' : Num w a' n' c' l')
    (hT : ∀ w', Below B w w' → Tab w') (hl : l.length ≤ 4000) (hl' : l'.length ≤ 4000) (he : mayE e) (he' : mayE e') :
    Calls Tryd.prog 47 #[.slice (some ⟨g, 0, none⟩) 2 2] w fun x w' => ∃ a1 n1 c1 l1 a2 n2 c2 l2, x = .returned (.int .i64 0) ∧ Boxed3 w' b R.s a1 n1 c1 R.e ∧ Num w' a1 n1 c1 l1 ∧ (valL l1 = R.m ∧ l1.length ≤ l.length) ∧
      Boxed3 w' b' R'.s a2 n2 c2 R'.e ∧ Num w' a2 n2 c2 l2 ∧ (valL l2 = R'.m ∧ l2.length ≤ l'.length) ∧ Below B w w' ∧ Apart b b' w w' := by
  have hM := may_any s e hN hl
  have hO := fun w' (hb : Below w.heap.size w w') => dNorm_any s e (hT _ (hb.mono hBw)) (hN.below hb) hl
  have hM' := fun w' (hn : Num w' a' n' c' l') => may_any s' e' hn hl'
  have hO' := fun w' (hb : Below B w w') (hn : Num w' a' n' c' l') => dNorm_any s' e' (hT _ hb) hn hl'
  obtain ⟨R1, r, hr⟩ : ∃ R1 r, normO ⟨s, valL l, e⟩ = (R1, r) := ⟨_, _, rfl⟩
  obtain ⟨R2, r', hr'⟩ : ∃ R1 r, normO ⟨s', valL l', e'⟩ = (R1, r) := ⟨_, _, rfl⟩
  have hC := norm_opn (by exact he) hR hr
  have hC' := norm_opn (by exact he') hR' hr'
  have hlen : (limbs (valL l)).length ≤ l.length := len_of hN.limbs
  have hlen' : (limbs (valL l')).length ≤ l'.length := len_of hN'.limbs
  rw [decide_eq_true he] at hM
  simp only [decide_eq_true he'] at hM'
  simp only [hr] at hO
  simp only [hr'] at hO'
  have hgw := cell_lt hp
  have HN := Lib.hid hN
  have HN' := Lib.hid hN'
  have HC := Lib.hid (And.intro hC hlen)
  have HC' := Lib.hid (And.intro hC' hlen')
  clear hN hN' hT he he' hr hr' hC hC' hlen hlen' hR hR'
  obtain ⟨x0, x1, x2, f0, f1, f2⟩ := id hx
  go_enter Tryd.func47, Tryd.ntmps47
  go_wp2_with fail
  go_loopw [9] (fun v wr => (v = .int .i64 0 ∧ wr = w) ∨ (v = .int .i64 1 ∧ ∃ a1 n1 c1 l1, Boxed3 wr b R.s a1 n1 c1 R.e ∧ Num wr a1 n1 c1 l1 ∧ Hid (valL l1 = R.m ∧ l1.length ≤ l.length) ∧ Boxed3 wr b' s' a' n' c' e' ∧ Num wr a' n' c' l' ∧ wr.cell? ⟨g, 1, none⟩ = some (.pointer (some ⟨b', 0, none⟩)) ∧ g < wr.heap.size ∧ Below B w wr ∧ Apart b b' w wr)
    ∨ (v = .int .i64 2 ∧ ∃ a1 n1 c1 l1 a2 n2 c2 l2, Boxed3 wr b R.s a1 n1 c1 R.e ∧ Num wr a1 n1 c1 l1 ∧ Hid (valL l1 = R.m ∧ l1.length ≤ l.length) ∧ Boxed3 wr b' R'.s a2 n2 c2 R'.e ∧ Num wr a2 n2 c2 l2 ∧ Hid (valL l2 = R'.m ∧ l2.length ≤ l'.length) ∧ Below B w wr ∧ Apart b b' w wr)) (fun v _ => (2 - intOf v).toNat)
  case atStart => exact .inl ⟨rfl, rfl⟩
  case round =>
    rcases hrel with ⟨rfl, rfl⟩ | ⟨rfl, a1, n1, c1, l1, X1, N1, V1, Y1, N2, hpr, hgr, hBr, hAr⟩ | ⟨rfl, a1, n1, c1, l1, a2, n2, c2, l2, h1, h2, h3, h4, h5, h6, h7, h8⟩
    · go_wp2_with fail
      refine hM.mono ?_
      rintro x w1 ⟨rfl, hb1⟩
      have X1 := hx.below hb1
      have Y1 := hx'.below hb1
      have N1 := Lib.hid (HN.out.below hb1)
      have N2 := Lib.hid (HN'.out.below hb1)
      have hp1 : w1.cell? ⟨g, 1, none⟩ = some (.pointer (some ⟨b', 0, none⟩)) := by rw [(bcell hb1).1 _ _ hgw]; exact hp'
      have hO1 := hO _ hb1
      have hB1 := hb1.mono hBw
      have hs1 := hb1.size
      have A1 := (Apart.refl b b' wr).below hb1
      clear hO hM hb1 hx hx' x0 x1 x2 f0 f1 f2 hO' hM' hp hp'
      obtain ⟨x0, x1, x2, f0, f1, f2⟩ := id X1
      go_wp2_with fail
      refine hO1.mono ?_
      rintro x w2 ⟨a1, n1, c1, rfl, h2, hb2⟩
      have hb3 := below_alloc hb2 (.cells #[.bool R1.s, .slice a1 n1 c1, .int .i64 R1.e] 37)
      have X2 := X1.below hb3
      have Y2 := Y1.below hb3
      have N3 := Lib.hid (N1.out.below hb3)
      have N4 := N2.out.below hb3
      have N5 := Lib.hid (h2.below (below_alloc (Below.refl _ _) (.cells #[.bool R1.s, .slice a1 n1 c1, .int .i64 R1.e] 37)))
      have hp2 : (w2.alloc (.cells #[.bool R1.s, .slice a1 n1 c1, .int .i64 R1.e] 37)).cell? ⟨g, 1, none⟩ = some (.pointer (some ⟨b', 0, none⟩)) := by rw [(bcell hb3).1 _ _ (by omega)]; exact hp1
      have hB2 := hB1.trans (hb3.mono (Nat.le_trans hBw hs1))
      have hs2 := hb3.size
      have A2 := A1.below hb3
      clear hO1 hb2 hb3 X1 Y1 N1 N2 h2 hp1 hB1 A1 x0 x1 x2 f0 f1 f2
      obtain ⟨x0, x1, x2, f0, f1, f2⟩ := id X2
      rcases HC.out.1 with ⟨rfl, rfl, hle⟩ | ⟨rfl, rfl⟩
      · have HLE := Lib.hid (Nat.le_trans hle HC.out.2)
        clear HC hle
        go_wp2_with fail
        refine ⟨.inr (.inl ⟨rfl, a1, n1, c1, limbs R1.m, X2.fill .., Num.fill X2 N5.out .., Lib.hid ⟨valL_limbs _, HLE.out⟩, ((Y2.other hbb _ _).other hbb _ _).other hbb _ _, Num.fill X2 N4 .., ?_, ?_, ((hB2.setCell (p := ⟨b, 0, none⟩) hB _).setCell (p := ⟨b, 1, none⟩) hB _).setCell (p := ⟨b, 2, none⟩) hB _, A2.fill (.inl rfl) _ _ _⟩), by simp [intOf]⟩
        · rw [World.cell?_setCell_other _ _ _ _ (by first | (simp; done) | (simp; omega)), World.cell?_setCell_other _ _ _ _ (by first | (simp; done) | (simp; omega)), World.cell?_setCell_other _ _ _ _ (by first | (simp; done) | (simp; omega))]
          exact hp2
        · simp at hs2 ⊢; omega
      · clear HC
        go_wp2_with fail
        exact ⟨.inr (.inl ⟨rfl, a, n, c, l, X2, N3.out, Lib.hid ⟨rfl, Nat.le_refl _⟩, Y2, N4, hp2, by simp at hs2 ⊢; omega, hB2, A2⟩), by simp [intOf]⟩
    · have hM1 := hM' _ N2
      have hO1 := fun w' (hb : Below wr.heap.size wr w') => hO' w' (hBr.trans (hb.mono (Nat.le_trans hBw hBr.size))) (N2.below hb)
      have N2' := Lib.hid N2
      have N1' := Lib.hid N1
      clear hM hO hM' hO' hx hx' x0 x1 x2 f0 f1 f2 hp hp' N1 N2
      obtain ⟨x0, x1, x2, f0, f1, f2⟩ := id Y1
      go_wp2_with fail
      refine hM1.mono ?_
      rintro x w1 ⟨rfl, hb1⟩
      have X2 := X1.below hb1
      have Y2 := Y1.below hb1
      have N3 := Lib.hid (N1'.out.below hb1)
      have N4 := Lib.hid (N2'.out.below hb1)
      have hO2 := hO1 _ hb1
      have hB1 := hBr.trans (hb1.mono (Nat.le_trans hBw hBr.size))
      have A1 := hAr.below hb1
      clear hO1 hM1 hb1 X1 Y1 N1' N2' hBr hAr hpr hgr x0 x1 x2 f0 f1 f2
      obtain ⟨x0, x1, x2, f0, f1, f2⟩ := id Y2
      go_wp2_with fail
      refine hO2.mono ?_
      rintro x w2 ⟨a2, n2, c2, rfl, h2, hb2⟩
      have hb3 := below_alloc hb2 (.cells #[.bool R2.s, .slice a2 n2 c2, .int .i64 R2.e] 37)
      have X3 := X2.below hb3
      have Y3 := Y2.below hb3
      have N5 := N3.out.below hb3
      have N6 := Lib.hid (N4.out.below hb3)
      have N7 := Lib.hid (h2.below (below_alloc (Below.refl _ _) (.cells #[.bool R2.s, .slice a2 n2 c2, .int .i64 R2.e] 37)))
      have hB2 := hB1.trans (hb3.mono (Nat.le_trans hBw hB1.size))
      have A2 := A1.below hb3
      clear hO2 hb2 hb3 X2 Y2 N3 N4 hB1 A1 h2 x0 x1 x2 f0 f1 f2
      obtain ⟨x0, x1, x2, f0, f1, f2⟩ := id Y3
      rcases HC'.out.1 with ⟨rfl, rfl, hle⟩ | ⟨rfl, rfl⟩
      · have HLE := Lib.hid (Nat.le_trans hle HC'.out.2)
        clear HC' hle HC
        go_wp2_with fail
        exact ⟨.inr (.inr ⟨rfl, a1, n1, c1, l1, a2, n2, c2, limbs R2.m, ((X3.other hbb' _ _).other hbb' _ _).other hbb' _ _, Num.fill Y3 N5 .., V1, Y3.fill .., Num.fill Y3 N7.out .., Lib.hid ⟨valL_limbs _, HLE.out⟩, ((hB2.setCell (p := ⟨b', 0, none⟩) hB' _).setCell (p := ⟨b', 1, none⟩) hB' _).setCell (p := ⟨b', 2, none⟩) hB' _, A2.fill (.inr rfl) _ _ _⟩), by simp [intOf]⟩
      · clear HC' HC
        go_wp2_with fail
        exact ⟨.inr (.inr ⟨rfl, a1, n1, c1, l1, a', n', c', l', X3, N5, V1, Y3, N6.out, Lib.hid ⟨rfl, Nat.le_refl _⟩, hB2, A2⟩), by simp [intOf]⟩
    · go_wp2_with fail
      go_ret
      exact ⟨a1, n1, c1, l1, a2, n2, c2, l2, rfl, h1, h2, h3.out, h4, h5, h6.out, h7, h8⟩
set_option maxHeartbeats 2000000 in
theorem sopen2_bad (B g b b' : Nat) (s s' : Bool) (a a' : Option Addr) (n c n' c' : Nat) (l l' : List Nat) (e e' : Int) (w : World) (hB : B ≤ b) (hB' : B ≤ b') (hBw : B ≤ w.heap.size) (hgb : g ≠ b) (hgb' : g ≠ b') (hbb : b ≠ b') (hbb' : b' ≠ b)
    (hp : w.cell? ⟨g, 0, none⟩ = some (.pointer (some ⟨b, 0, none⟩))) (hp' : w.cell? ⟨g, 1, none⟩ = some (.pointer (some ⟨b', 0, none⟩))) (hx : Boxed3 w b s a n c e) (hx' : Boxed3 w b' s' a' n' c' e') (hN : Num w a n c l) (hN' : Num w a' n' c' l')
    (hT : ∀ w', Below B w w' → Tab w') (hl : l.length ≤ 4000) (hl' : l'.length ≤ 4000) (he : mayE e) (he' : ¬ mayE e') :
    Calls Tryd.prog 47 #[.slice (some ⟨g, 0, none⟩) 2 2] w fun x w' => x = .returned (.int .i64 2) ∧ Below B w w' := by
  have hM := may_any s e hN hl
  have hO := fun w' (hb : Below w.heap.size w w') => dNorm_any s e (hT _ (hb.mono hBw)) (hN.below hb) hl
  have hM' := fun w' (hn : Num w' a' n' c' l') => may_any s' e' hn hl'
  obtain ⟨R1, r, hr⟩ : ∃ R1 r, normO ⟨s, valL l, e⟩ = (R1, r) := ⟨_, _, rfl⟩
  obtain ⟨R, hR⟩ : ∃ R, opnD ⟨s, valL l, e⟩ = R := ⟨_, rfl⟩
  have hC := norm_opn (by exact he) hR hr
  rw [decide_eq_true he] at hM
  simp only [decide_eq_false he'] at hM'
  simp only [hr] at hO
  have hgw := cell_lt hp
  have HN' := Lib.hid hN'
  have HC := Lib.hid hC
  clear hN hN' hT he he' hr hC hR
  obtain ⟨x0, x1, x2, f0, f1, f2⟩ := id hx
  go_enter Tryd.func47, Tryd.ntmps47
  go_wp2_with fail
  go_loopw [9] (fun v wr => (v = .int .i64 0 ∧ wr = w) ∨ (v = .int .i64 1 ∧ Boxed3 wr b' s' a' n' c' e' ∧ Num wr a' n' c' l' ∧ wr.cell? ⟨g, 1, none⟩ = some (.pointer (some ⟨b', 0, none⟩)) ∧ g < wr.heap.size ∧ Below B w wr)) (fun v _ => (2 - intOf v).toNat)
  case atStart => exact .inl ⟨rfl, rfl⟩
  case round =>
    rcases hrel with ⟨rfl, rfl⟩ | ⟨rfl, Y1, N2, hpr, hgr, hBr⟩
    · go_wp2_with fail
      refine hM.mono ?_
      rintro x w1 ⟨rfl, hb1⟩
      have X1 := hx.below hb1
      have Y1 := hx'.below hb1
      have N2 := Lib.hid (HN'.out.below hb1)
      have hp1 : w1.cell? ⟨g, 1, none⟩ = some (.pointer (some ⟨b', 0, none⟩)) := by rw [(bcell hb1).1 _ _ hgw]; exact hp'
      have hO1 := hO _ hb1
      have hB1 := hb1.mono hBw
      have hs1 := hb1.size
      clear hO hM hb1 hx hx' x0 x1 x2 f0 f1 f2 hM' hp hp'
      obtain ⟨x0, x1, x2, f0, f1, f2⟩ := id X1
      go_wp2_with fail
      refine hO1.mono ?_
      rintro x w2 ⟨a1, n1, c1, rfl, h2, hb2⟩
      have hb3 := below_alloc hb2 (.cells #[.bool R1.s, .slice a1 n1 c1, .int .i64 R1.e] 37)
      have X2 := X1.below hb3
      have Y2 := Y1.below hb3
      have N4 := N2.out.below hb3
      have hp2 : (w2.alloc (.cells #[.bool R1.s, .slice a1 n1 c1, .int .i64 R1.e] 37)).cell? ⟨g, 1, none⟩ = some (.pointer (some ⟨b', 0, none⟩)) := by rw [(bcell hb3).1 _ _ (by omega)]; exact hp1
      have hB2 := hB1.trans (hb3.mono (Nat.le_trans hBw hs1))
      have hs2 := hb3.size
      clear hO1 hb2 hb3 X1 Y1 N2 h2 hp1 hB1 x0 x1 x2 f0 f1 f2
      obtain ⟨x0, x1, x2, f0, f1, f2⟩ := id X2
      rcases HC.out with ⟨rfl, rfl, hle⟩ | ⟨rfl, rfl⟩
      · clear HC hle
        go_wp2_with fail
        refine ⟨.inr ⟨rfl, ((Y2.other hbb _ _).other hbb _ _).other hbb _ _, Num.fill X2 N4 .., ?_, ?_, ((hB2.setCell (p := ⟨b, 0, none⟩) hB _).setCell (p := ⟨b, 1, none⟩) hB _).setCell (p := ⟨b, 2, none⟩) hB _⟩, by simp [intOf]⟩
        · rw [World.cell?_setCell_other _ _ _ _ (by first | (simp; done) | (simp; omega)), World.cell?_setCell_other _ _ _ _ (by first | (simp; done) | (simp; omega)), World.cell?_setCell_other _ _ _ _ (by first | (simp; done) | (simp; omega))]
          exact hp2
        · simp at hs2 ⊢; omega
      · clear HC
        go_wp2_with fail
        exact ⟨.inr ⟨rfl, Y2, N4, hp2, by simp at hs2 ⊢; omega, hB2⟩, by simp [intOf]⟩
    · have hM1 := hM' _ N2
      clear hM hO hM' hx hx' x0 x1 x2 f0 f1 f2 hp hp'
      obtain ⟨x0, x1, x2, f0, f1, f2⟩ := id Y1
      go_wp2_with fail
      refine hM1.mono ?_
      rintro x w1 ⟨rfl, hb1⟩
      go_wp2_with fail
      go_ret
      exact ⟨rfl, hBr.trans (hb1.mono (Nat.le_trans hBw hBr.size))⟩
end Go.Proofs.YtjlaadadbpffdaaDoor

namespace Go.Plumb
theorem roundW_more (neg : Bool) (Q : Nat) (e : Int) (more : Bool) (D : Nat) (h : 64 ≤ lenN Q) (hD : lenN Q - 64 = D) :
    roundW neg ((Q / 2 ^ D : Nat) : Int) (e + (D : Int)) (decide (Q % 2 ^ D ≠ 0) || more) = (roundN neg (2 * Q + more.toNat) (e - 1) : Int) := by
  have hb : more.toNat ≤ 1 := by cases more <;> decide
  have h1 := roundW_cut neg (2 * Q + more.toNat) (e - 1) (D + 1) (.inl (by
    rw [Nat.pow_succ, Nat.mul_comm (2 ^ D) 2, ← Nat.div_div_eq_div_mul, show (2 * Q + more.toNat) / 2 = Q by omega]
    have := le_div_len Q D 63 (by omega)
    simp only [Nat.reducePow] at this
    omega))
  rw [← h1]
  have e1 : (2 * Q + more.toNat) / 2 ^ (D + 1) = Q / 2 ^ D := by
    rw [Nat.pow_succ, Nat.mul_comm (2 ^ D) 2, ← Nat.div_div_eq_div_mul, show (2 * Q + more.toNat) / 2 = Q by omega]
  have e2 : decide ((2 * Q + more.toNat) % 2 ^ (D + 1) ≠ 0) = (decide (Q % 2 ^ D ≠ 0) || more) := by
    have e3 : (2 * Q + more.toNat) % 2 ^ (D + 1) = 2 * (Q % 2 ^ D) + more.toNat := by
      have h2 := Nat.div_add_mod Q (2 ^ D)
      have h3 : Q % 2 ^ D < 2 ^ D := Nat.mod_lt _ (Nat.pow_pos (by decide))
      have h4 : 2 * Q + more.toNat = (2 * (Q % 2 ^ D) + more.toNat) + 2 ^ (D + 1) * (Q / 2 ^ D) := by
        rw [Nat.pow_succ, Nat.mul_comm (2 ^ D) 2, Nat.mul_assoc]
        generalize 2 ^ D * (Q / 2 ^ D) = Z at *
        omega
      rw [h4, Nat.add_mul_mod_self_left]
      apply Nat.mod_eq_of_lt
      rw [Nat.pow_succ]
      omega
    rw [e3]
    cases more
    · simp only [Bool.toNat_false, Nat.add_zero, Bool.or_false]
      exact decide_eq_decide.2 (by omega)
    · simp only [Bool.toNat_true, Bool.or_true]
      exact decide_eq_true (by omega)
  rw [e1, e2]
  congr 1
  omega
end Go.Plumb
namespace Go.Proofs.YtjlaadadbpffdaaDoor
open Go.RowKit Go.Plumb
section
variable {w : World} {a b : Option Addr} {n c m d : Nat} {l k : List Nat}
set_option maxHeartbeats 2000000 in
theorem sfloat_any (neg : Bool) (Q : Nat) (e : Int) (more : Bool) (h1 : Num w a n c (limbs Q)) (hQ : 64 ≤ lenN Q) (hl : (limbs Q).length ≤ 4000) (b0 : -1000000000 ≤ e) (b1 : e ≤ 1000000000) :
    Calls Tryd.prog 53 #[.bool neg, .slice a n c, .int .i64 e, .bool more] w fun z w' => z = .returned (.float .f64 (roundN neg (2 * Q + more.toNat) (e - 1))) ∧ Below w.heap.size w w' := by
  have hlen : lenN Q ≤ 256000 := by
    apply lenN_le
    have h2 := lt_pow_length Q
    obtain ⟨k, hk⟩ : ∃ k, k = 4000 := ⟨_, rfl⟩
    rw [← hk] at hl
    have h3 : 18446744073709551616 ^ (limbs Q).length ≤ 18446744073709551616 ^ k := Nat.pow_le_pow_right (by decide) hl
    rw [powB64 k] at h3
    have h4 : 64 * k = 256000 := by omega
    rw [h4] at h3
    exact Nat.lt_of_lt_of_le h2 h3
  obtain ⟨N, hN⟩ : ∃ N, lenN Q = N := ⟨_, rfl⟩
  obtain ⟨D, hD⟩ : ∃ D, N - 64 = D := ⟨_, rfl⟩
  have hD0 : (N : Int) - 64 = (D : Int) := by omega
  obtain ⟨M, hM⟩ : ∃ M, Q / 2 ^ D = M := ⟨_, rfl⟩
  have hM1 : M < 18446744073709551616 := by
    rw [← hM]
    have := div_len Q D 64 (by omega)
    simpa using this
  have hM0 : 9223372036854775808 ≤ M := by
    rw [← hM]
    have := le_div_len Q D 63 (by omega)
    simpa using this
  have hcut := roundW_more neg Q e more D hQ (by omega)
  obtain ⟨L, hL⟩ : ∃ L, decide (Q % 2 ^ D ≠ 0) = L := ⟨_, rfl⟩
  rw [hM, hL] at hcut
  have hbad : roundBad (M : Int) (e + D) (L || more) = false := by
    unfold roundBad
    have : decide ((M : Int) < 9007199254740992) = false := decide_eq_false (by omega)
    rw [this, Bool.and_false, Bool.false_and]
  have hfin : (roundN neg (2 * Q + more.toNat) (e - 1) : Nat) = (roundW neg (M : Int) (e + D) (L || more)).toNat := by rw [hcut]; rfl
  rw [hfin]
  obtain ⟨W, hW⟩ : ∃ W, roundW neg (M : Int) (e + D) (L || more) = W := ⟨_, rfl⟩
  have hRnd := fun w => round_any neg (M : Int) (e + D) (L || more) w (by omega) (by omega) hbad
  rw [hW] at hRnd ⊢
  have hE : e + (N : Int) - 64 = e + (D : Int) := by omega
  have hBi := bits_n h1 hl
  rw [valL_limbs, hN] at hBi
  have hSh := fun w' (hb : Below w.heap.size w w') => shr_n M D (h1.below hb) (by rw [valL_limbs]; exact hM) hl (by omega)
  simp only [valL_limbs, hL] at hSh
  have hDle : (D : Int) ≤ 256000 := by omega
  have hD1 : (0 : Int) ≤ D := by omega
  have hN1 : (0 : Int) ≤ N := by omega
  have hN2 : (N : Int) ≤ 256000 := by omega
  have hl1 : limbs M = [M] := limbs_one (by omega) hM1
  rw [hl1] at hSh
  clear hfin hcut hbad hW hL hM hN hD hlen h1 hQ hl hl1
  go_enter Tryd.func53, Tryd.ntmps53
  go_wp2_with fail
  refine hBi.mono ?_
  rintro x w1 ⟨rfl, hb1⟩
  have hSh1 := hSh _ hb1
  clear hBi hSh
  go_wp2_with fail
  refine hSh1.mono ?_
  rintro x w2 ⟨a2, n2, c2, rfl, h2, hb2⟩
  have hB2 := below_step hb1 hb2
  clear hSh1 hb2 hb1
  obtain ⟨bb, off, rfl, hc⟩ := h2.2.2.2.2 0 (by simp)
  obtain rfl : n2 = 1 := h2.1
  have hc' : w2.cell? ⟨bb, off, none⟩ = some (.int .u64 (M : Int)) := by simpa using hc
  have hbl : bb < w2.heap.size := cell_lt hc
  clear h2 hc
  cases L
  all_goals simp only [Bool.true_or, Bool.false_or] at hRnd
  all_goals go_wp2_with fail
  all_goals refine (hRnd _).mono ?_
  all_goals rintro x w4 ⟨rfl, hb4⟩
  all_goals go_wp2_with fail
  all_goals refine (float_any W _).mono ?_
  all_goals rintro x w' ⟨rfl, rfl⟩
  all_goals go_wp2_with fail
  all_goals go_ret
  all_goals exact ⟨rfl, below_step hB2 hb4⟩
theorem slong_any (s : Bool) (e : Int) (h1 : Num w a n c l) (hl : l.length ≤ 2000) :
    Calls Tryd.prog 49 #[.agg #[.bool s, .slice a n c, .int .i64 e]] w fun z w' => z = .returned (.bool false) ∧ Below w.heap.size w w' := by
  have X0 := Boxed3.new w s a n c e 37 (g := w.heap.size) rfl
  obtain ⟨x0, x1, x2, _, _, _⟩ := id X0
  have hN := fun w' (hb : Below w.heap.size w w') => norm_n (h1.below hb) (by omega)
  have hlen : Hid ((limbs (valL l)).length ≤ 2000) := Lib.hid (Nat.le_trans (len_of h1.limbs) hl)
  clear X0 h1 hl
  go_enter Tryd.func49, Tryd.ntmps49
  go_wp2_with fail
  refine (hN _ (by repeat' (first | exact Below.refl _ _ | refine below_alloc ?_ _))).mono ?_
  rintro z w1 ⟨a', n', c', rfl, h2, hb⟩
  have hd : decide (2048 < (n' : Int)) = false := decide_eq_false (by have := hlen.out; have := h2.1; omega)
  clear hN h2
  go_wp2_with fail
  go_ret
  exact ⟨rfl, below_step (w0 := w) (by (repeat' (first | exact Below.refl _ _ | assumption | (refine below_alloc ?_ _) | (refine Below.setCell ?_ ?_ _) | (refine Below.drew ?_) | (refine below_drewN ?_ _))) <;> (first | (simp; done) | (simp; omega) | omega)) hb⟩
end
end Go.Proofs.YtjlaadadbpffdaaDoor

namespace Go.Plumb
/-- What Quot answers, of numbers that are not too long. -/
noncomputable def quoO (x y : Dy) : Nat × Int :=
  if mayE x.e ∧ mayE y.e then (if y.m = 0 then (0, 9) else if x.m = 0 then (0, 0) else (quoD x y, 0)) else (0, 2)
noncomputable def rootO (x : Dy) : Nat × Int :=
  if mayE x.e then (if x.m = 0 then (0, 0) else if x.s = true then (0, 2) else (rootD x, 0)) else (0, 2)
theorem opn_may {x : Dy} (h : mayE x.e) : mayE (opnD x).e := by
  unfold opnD
  split
  · assumption
  · exact h
theorem opn_zero (x : Dy) : (opnD x).m = 0 ↔ x.m = 0 := by
  rw [← nrm_m_zero (opnD x), nrm_opn, nrm_m_zero]
theorem opn_s {x : Dy} (h : x.m ≠ 0) : (opnD x).s = x.s := by
  unfold opnD
  split
  · exact nrm_s h
  · rfl
theorem quoD_opn {x y : Dy} (hx : x.m ≠ 0) (hy : y.m ≠ 0) : quoD (opnD x) (opnD y) = quoD x y := by
  rw [← quoD_nrm (opnD x) (opnD y) (fun h => hx ((opn_zero x).1 h)) (fun h => hy ((opn_zero y).1 h)), nrm_opn, nrm_opn, quoD_nrm x y hx hy]
theorem rootD_opn {x : Dy} (hx : x.m ≠ 0) : rootD (opnD x) = rootD x := by
  rw [← rootD_nrm (opnD x) (fun h => hx ((opn_zero x).1 h)), nrm_opn, rootD_nrm x hx]
theorem sign_opn {x : Dy} (h : mayE x.e) : signO x = if x.m = 0 then 0 else if x.s = true then -1 else 1 := by
  unfold signO sideD
  rw [if_pos h]
  by_cases h0 : x.m = 0
  · rw [if_pos ((nrm_m_zero x).2 h0), if_pos h0]
  · rw [if_neg (fun h => h0 ((nrm_m_zero x).1 h)), if_neg h0, nrm_s h0]
theorem lenN_of_len {Q k : Nat} (h : (limbs Q).length ≤ k) : lenN Q ≤ 64 * k := by
  apply lenN_le
  have h2 := lt_pow_length Q
  have h3 : 18446744073709551616 ^ (limbs Q).length ≤ 18446744073709551616 ^ k := Nat.pow_le_pow_right (by decide) h
  rw [powB64 k] at h3
  exact Nat.lt_of_lt_of_le h2 h3
theorem len_of_lenN {Q k : Nat} (h : lenN Q ≤ 64 * k) : (limbs Q).length ≤ k := by
  apply length_limbs_le
  rw [powB64 k]
  exact Nat.lt_of_lt_of_le (lt_lenN Q) (Nat.pow_le_pow_right (by decide) h)
theorem lenN_mul_pow (m k : Nat) : lenN (m * 2 ^ k) ≤ lenN m + k := by
  apply lenN_le
  rw [Nat.pow_add]
  exact Nat.mul_lt_mul_of_pos_right (lt_lenN m) (Nat.pow_pos (by decide))
theorem quo_bits {m n N1 N2 D : Nat} (hm : m ≠ 0) (hn : n ≠ 0) (h1 : lenN m = N1) (h2 : lenN n = N2) (hD : N2 - N1 = D) : 64 ≤ lenN (m * 2 ^ (D + 66) / n) := by
  have hx : 2 ^ (lenN m - 1) ≤ m := lenN_ge m hm
  have hy : n < 2 ^ lenN n := lt_lenN n
  have hp : 0 < lenN m := by unfold lenN; rw [if_neg hm]; omega
  have h3 : 2 ^ 63 ≤ m * 2 ^ (D + 66) / n := by
    rw [Nat.le_div_iff_mul_le (by omega)]
    refine Nat.le_trans (Nat.mul_le_mul_left _ (Nat.le_of_lt hy)) (Nat.le_trans ?_ (Nat.mul_le_mul_right _ hx))
    rw [← Nat.pow_add, ← Nat.pow_add]
    exact Nat.pow_le_pow_right (by decide) (by omega)
  apply Nat.le_of_not_lt
  intro hlt
  have h4 : m * 2 ^ (D + 66) / n < 2 ^ 63 := Nat.lt_of_lt_of_le (lt_lenN _) (Nat.pow_le_pow_right (by decide) (by omega))
  omega
theorem root_bits {m U M S : Nat} (hm : m ≠ 0) (hM : m * 2 ^ (130 + U) = M) (hS : isqN M = S) : 64 ≤ lenN S := by
  have h1 := (isqN_spec M).2
  rw [hS] at h1
  apply Nat.le_of_not_lt
  intro hlt
  have h2 : S < 2 ^ 63 := Nat.lt_of_lt_of_le (lt_lenN _) (Nat.pow_le_pow_right (by decide) (by omega))
  have h3 : 2 ^ 130 ≤ M := by
    rw [← hM]
    refine Nat.le_trans (Nat.pow_le_pow_right (by decide) (Nat.le_add_right 130 U)) (Nat.le_mul_of_pos_left _ (by omega))
  have h4 : (S + 1) * (S + 1) ≤ 2 ^ 63 * 2 ^ 63 := Nat.mul_le_mul h2 h2
  have h5 : 2 ^ 63 * 2 ^ 63 ≤ 2 ^ 130 := by decide
  omega
theorem and_one_i64 (e : Int) : bits .and .i64 e 1 = e % 2 := by
  have h1 : ((BitVec.ofInt 64 e &&& BitVec.ofInt 64 1).toNat : Int) = e % 2 := by
    rw [BitVec.toNat_and]
    have : (BitVec.ofInt 64 1).toNat = 1 := by decide
    rw [this, Nat.and_one_is_mod, BitVec.toNat_ofInt]
    omega
  show IntKind.i64.wrap ((BitVec.ofInt 64 e &&& BitVec.ofInt 64 1).toNat : Int) = _
  rw [h1, IntKind.wrap_i64]
  omega
end Go.Plumb
namespace Go.Proofs.YtjlaadadbpffdaaDoor
open Go.RowKit Go.Plumb
section
variable {w : World} {a b : Option Addr} {n c m d : Nat} {l k : List Nat}
theorem bits_v {M N : Nat} (h1 : Num w a n c l) (v1 : valL l = M) (hN : lenN M = N) (hl : l.length ≤ 4000) :
    Calls Tryd.prog 50 #[.slice a n c] w fun e w' => e = .returned (.tuple #[.int .i64 (N : Int), .int .i64 0]) ∧ Below w.heap.size w w' := by
  subst v1 hN
  exact bits_n h1 hl
theorem shl_v {M X i : Nat} {k : Int} (h1 : Num w a n c l) (v1 : valL l = M) (hX : M * 2 ^ i = X) (hk : k = (i : Int)) (hl : l.length ≤ 4000) (hi : i ≤ 9223372036854775807) (hlX : (limbs X).length ≤ 4096) :
    Calls Tryd.prog 51 #[.slice a n c, .int .i64 k] w fun e w' => ∃ a' n' c', e = .returned (.tuple #[.slice a' n' c', .int .i64 0]) ∧ Num w' a' n' c' (limbs X) ∧ Below w.heap.size w w' := by
  subst v1 hk
  exact shl_n X i h1 hX hl hi hlX
theorem div_v {M K X Y : Nat} (h1 : Num w a n c l) (h2 : Num w b m d k) (v1 : valL l = M) (v2 : valL k = K) (h0 : K ≠ 0) (hX : M / K = X) (hY : M % K = Y) (hl : l.length + k.length ≤ 4000) :
    Calls Tryd.prog 52 #[.slice a n c, .slice b m d] w fun e w' => ∃ a' n' c' b' m' d', e = .returned (.tuple #[.slice a' n' c', .slice b' m' d', .int .i64 0]) ∧ Num w' a' n' c' (limbs X) ∧ Num w' b' m' d' (limbs Y) ∧ Below w.heap.size w w' := by
  subst v1 v2
  exact div_n X Y h1 h2 h0 hX hY hl
theorem sQuot_bad1 (s s' : Bool) (e e' : Int) (hT : Tab w) (h1 : Num w a n c l) (h2 : Num w b m d k) (hl : l.length ≤ 400) (hl' : k.length ≤ 400) (he : ¬ mayE e) :
    Calls Tryd.prog 20 #[.agg #[.bool s, .slice a n c, .int .i64 e], .agg #[.bool s', .slice b m d, .int .i64 e']] w fun z w' => z = .returned (.tuple #[.float .f64 0, .int .i64 2]) ∧ Below w.heap.size w w' := by
  have X0 := (Boxed3.new w s a n c e 37 (g := w.heap.size) rfl).alloc (.cells #[.bool s', .slice b m d, .int .i64 e'] 37)
  have Y0 := Boxed3.new (w.alloc (.cells #[.bool s, .slice a n c, .int .i64 e] 37)) s' b m d e' 37 (g := w.heap.size + 1) (by simp)
  have hO := fun g w' (hb : Below w.heap.size w w') (hp) (hx) (hg) => sopen_bad g w.heap.size 2 (by omega) (by omega) s a n c l e w' hg hp hx (h1.below hb) (by omega) he
  clear h1 h2 hT he
  go_enter Tryd.func20, Tryd.ntmps20
  go_wp2_with fail
  refine (hO _ _ (by repeat' (first | exact Below.refl _ _ | refine below_alloc ?_ _)) (by simp [go_sem]) (X0.alloc _) (by omega)).mono ?_
  rintro x w1 ⟨rfl, hb1⟩
  go_wp2_with fail
  go_ret2
  exact ⟨rfl, below_step (by (repeat' (first | exact Below.refl _ _ | assumption | (refine below_alloc ?_ _) | (refine Below.setCell ?_ ?_ _) | (refine Below.drew ?_) | (refine below_drewN ?_ _))) <;> (first | (simp; done) | (simp; omega) | omega)) hb1⟩
theorem sQuot_bad2 (s s' : Bool) (e e' : Int) (hT : Tab w) (h1 : Num w a n c l) (h2 : Num w b m d k) (hl : l.length ≤ 400) (hl' : k.length ≤ 400) (he : mayE e) (he' : ¬ mayE e') :
    Calls Tryd.prog 20 #[.agg #[.bool s, .slice a n c, .int .i64 e], .agg #[.bool s', .slice b m d, .int .i64 e']] w fun z w' => z = .returned (.tuple #[.float .f64 0, .int .i64 2]) ∧ Below w.heap.size w w' := by
  have X0 := (Boxed3.new w s a n c e 37 (g := w.heap.size) rfl).alloc (.cells #[.bool s', .slice b m d, .int .i64 e'] 37)
  have Y0 := Boxed3.new (w.alloc (.cells #[.bool s, .slice a n c, .int .i64 e] 37)) s' b m d e' 37 (g := w.heap.size + 1) (by simp)
  have hO := fun g w' (hb : Below w.heap.size w w') (hp) (hp') (hx) (hx') (hg) (hg') => sopen2_bad (w.heap.size) g w.heap.size (w.heap.size + 1) s s' a b n c m d l k e e' w' (Nat.le_refl _) (Nat.le_succ _) hb.size hg hg' (by omega) (by omega) hp hp' hx hx' (h1.below hb) (h2.below hb) (fun w'' hb' => hT.below (hb.trans hb')) (by omega) (by omega) he he'
  clear h1 h2 hT he he'
  go_enter Tryd.func20, Tryd.ntmps20
  go_wp2_with fail
  refine (hO _ _ (by repeat' (first | exact Below.refl _ _ | refine below_alloc ?_ _)) (by simp [go_sem]) (by simp [go_sem]) (X0.alloc _) (Y0.alloc _) (by omega) (by omega)).mono ?_
  rintro x w1 ⟨rfl, hb1⟩
  go_wp2_with fail
  go_ret2
  exact ⟨rfl, Below.trans (by repeat' (first | exact Below.refl _ _ | refine below_alloc ?_ _)) hb1⟩
set_option maxHeartbeats 2000000 in
theorem sQuot_zero (s s' : Bool) (e e' : Int) (hT : Tab w) (h1 : Num w a n c l) (h2 : Num w b m d k) (hl : l.length ≤ 400) (hl' : k.length ≤ 400) (he : mayE e) (he' : mayE e') (h0 : valL k = 0) :
    Calls Tryd.prog 20 #[.agg #[.bool s, .slice a n c, .int .i64 e], .agg #[.bool s', .slice b m d, .int .i64 e']] w fun z w' => z = .returned (.tuple #[.float .f64 0, .int .i64 9]) ∧ Below w.heap.size w w' := by
  have X0 := (Boxed3.new w s a n c e 37 (g := w.heap.size) rfl).alloc (.cells #[.bool s', .slice b m d, .int .i64 e'] 37)
  have Y0 := Boxed3.new (w.alloc (.cells #[.bool s, .slice a n c, .int .i64 e] 37)) s' b m d e' 37 (g := w.heap.size + 1) (by simp)
  obtain ⟨X, hX⟩ : ∃ X, opnD ⟨s, valL l, e⟩ = X := ⟨_, rfl⟩
  obtain ⟨Y, hY⟩ : ∃ Y, opnD ⟨s', valL k, e'⟩ = Y := ⟨_, rfl⟩
  have hO := fun g w' (hb : Below w.heap.size w w') (hp) (hp') (hx) (hx') (hg) (hg') => sopen2 (w.heap.size) g w.heap.size (w.heap.size + 1) s s' a b n c m d l k e e' w' X Y hX hY (Nat.le_refl _) (Nat.le_succ _) hb.size hg hg' (by omega) (by omega) hp hp' hx hx' (h1.below hb) (h2.below hb) (fun w'' hb' => hT.below (hb.trans hb')) (by omega) (by omega) he he'
  have mX : mayE X.e := by rw [← hX]; exact opn_may (by exact he)
  have mY : mayE Y.e := by rw [← hY]; exact opn_may (by exact he')
  have sX := sign_opn mX
  have sY := sign_opn mY
  have z0 : Y.m = 0 := by rw [← hY]; exact (opn_zero _).2 h0
  rw [if_pos z0] at sY
  have HZ := Lib.hid (And.intro sX sY)
  clear hX hY sX sY h1 h2 he he' mX mY z0 h0
  go_enter Tryd.func20, Tryd.ntmps20
  go_wp2_with fail
  refine (hO _ _ (by repeat' (first | exact Below.refl _ _ | refine below_alloc ?_ _)) (by simp [go_sem]) (by simp [go_sem]) (X0.alloc _) (Y0.alloc _) (by omega) (by omega)).mono ?_
  rintro x w1 ⟨a_p, n_p, c_p, l1, a_q, n_q, c_q, l2, rfl, X1, N1, V1, Y1, N2, V2, hB1, A1⟩
  have HS : Hid (At w w1 [(a_p, n_p, c_p, l1), (a_q, n_q, c_q, l2)]) := Lib.hid ⟨Below.trans (by repeat' (first | exact Below.refl _ _ | refine below_alloc ?_ _)) hB1, N1, N2, trivial⟩
  have HV := Lib.hid (And.intro V1 V2)
  have B_x := Lib.hid X1
  have B_y := Lib.hid Y1
  clear hO X0 Y0 A1 hB1 N1 N2 V1 V2 X1 Y1
  obtain ⟨y0, y1, y2, _, _, _⟩ := id (B_y.out)
  go_wp2_with fail
  refine (dSign_v Y.s Y.e 0 (hT.below (below_step HS.out.1 (by repeat' (first | exact Below.refl _ _ | refine below_alloc ?_ _)))) (HS.out.get 1 rfl (by repeat' (first | exact Below.refl _ _ | refine below_alloc ?_ _))) HV.out.2.1 (by have := HV.out.2.2; omega) HZ.out.2).mono ?_
  rintro e w2 ⟨rfl, hb⟩
  replace B_x := Lib.hid (B_x.out.later (by repeat' (first | exact Below.refl _ _ | refine below_alloc ?_ _)) hb)
  replace B_y := Lib.hid (B_y.out.later (by repeat' (first | exact Below.refl _ _ | refine below_alloc ?_ _)) hb)
  clear y0 y1 y2
  replace HS := Lib.hid (HS.out.call (by repeat' (first | exact Below.refl _ _ | refine below_alloc ?_ _)) hb)
  clear hb
  go_wp2_with fail
  go_ret2
  exact ⟨rfl, HS.out.1⟩
set_option maxHeartbeats 2000000 in
theorem sQuot_nought (s s' : Bool) (e e' : Int) (hT : Tab w) (h1 : Num w a n c l) (h2 : Num w b m d k) (hl : l.length ≤ 400) (hl' : k.length ≤ 400) (he : mayE e) (he' : mayE e') (h0 : valL k ≠ 0) (h0' : valL l = 0) :
    Calls Tryd.prog 20 #[.agg #[.bool s, .slice a n c, .int .i64 e], .agg #[.bool s', .slice b m d, .int .i64 e']] w fun z w' => z = .returned (.tuple #[.float .f64 0, .int .i64 0]) ∧ Below w.heap.size w w' := by
  have X0 := (Boxed3.new w s a n c e 37 (g := w.heap.size) rfl).alloc (.cells #[.bool s', .slice b m d, .int .i64 e'] 37)
  have Y0 := Boxed3.new (w.alloc (.cells #[.bool s, .slice a n c, .int .i64 e] 37)) s' b m d e' 37 (g := w.heap.size + 1) (by simp)
  obtain ⟨X, hX⟩ : ∃ X, opnD ⟨s, valL l, e⟩ = X := ⟨_, rfl⟩
  obtain ⟨Y, hY⟩ : ∃ Y, opnD ⟨s', valL k, e'⟩ = Y := ⟨_, rfl⟩
  have hO := fun g w' (hb : Below w.heap.size w w') (hp) (hp') (hx) (hx') (hg) (hg') => sopen2 (w.heap.size) g w.heap.size (w.heap.size + 1) s s' a b n c m d l k e e' w' X Y hX hY (Nat.le_refl _) (Nat.le_succ _) hb.size hg hg' (by omega) (by omega) hp hp' hx hx' (h1.below hb) (h2.below hb) (fun w'' hb' => hT.below (hb.trans hb')) (by omega) (by omega) he he'
  have mX : mayE X.e := by rw [← hX]; exact opn_may (by exact he)
  have mY : mayE Y.e := by rw [← hY]; exact opn_may (by exact he')
  have sX := sign_opn mX
  have sY := sign_opn mY
  have z0 : Y.m ≠ 0 := by rw [← hY]; exact fun h => h0 ((opn_zero _).1 h)
  have z1 : X.m = 0 := by rw [← hX]; exact (opn_zero _).2 h0'
  rw [if_neg z0] at sY
  rw [if_pos z1] at sX
  obtain ⟨z, hz⟩ : ∃ z, signO Y = z := ⟨_, rfl⟩
  have hz0 : z ≠ 0 := by rw [← hz, sY]; split <;> decide
  have HZ := Lib.hid (And.intro sX (And.intro hz hz0))
  clear hX hY sX sY h1 h2 he he' mX mY z0 z1 h0 h0' hz
  go_enter Tryd.func20, Tryd.ntmps20
  go_wp2_with fail
  refine (hO _ _ (by repeat' (first | exact Below.refl _ _ | refine below_alloc ?_ _)) (by simp [go_sem]) (by simp [go_sem]) (X0.alloc _) (Y0.alloc _) (by omega) (by omega)).mono ?_
  rintro x w1 ⟨a_p, n_p, c_p, l1, a_q, n_q, c_q, l2, rfl, X1, N1, V1, Y1, N2, V2, hB1, A1⟩
  have HS : Hid (At w w1 [(a_p, n_p, c_p, l1), (a_q, n_q, c_q, l2)]) := Lib.hid ⟨Below.trans (by repeat' (first | exact Below.refl _ _ | refine below_alloc ?_ _)) hB1, N1, N2, trivial⟩
  have HV := Lib.hid (And.intro V1 V2)
  have B_x := Lib.hid X1
  have B_y := Lib.hid Y1
  clear hO X0 Y0 A1 hB1 N1 N2 V1 V2 X1 Y1
  obtain ⟨y0, y1, y2, _, _, _⟩ := id (B_y.out)
  go_wp2_with fail
  refine (dSign_v Y.s Y.e z (hT.below (below_step HS.out.1 (by repeat' (first | exact Below.refl _ _ | refine below_alloc ?_ _)))) (HS.out.get 1 rfl (by repeat' (first | exact Below.refl _ _ | refine below_alloc ?_ _))) HV.out.2.1 (by have := HV.out.2.2; omega) HZ.out.2.1).mono ?_
  rintro e w2 ⟨rfl, hb⟩
  replace B_x := Lib.hid (B_x.out.later (by repeat' (first | exact Below.refl _ _ | refine below_alloc ?_ _)) hb)
  replace B_y := Lib.hid (B_y.out.later (by repeat' (first | exact Below.refl _ _ | refine below_alloc ?_ _)) hb)
  clear y0 y1 y2
  replace HS := Lib.hid (HS.out.call (by repeat' (first | exact Below.refl _ _ | refine below_alloc ?_ _)) hb)
  clear hb
  obtain ⟨x0, x1, x2, _, _, _⟩ := id (B_x.out)
  go_wp2_with fail
  refine (slong_any X.s X.e (HS.out.get 0 rfl (by repeat' (first | exact Below.refl _ _ | refine below_alloc ?_ _))) (by have := HV.out.1.2; omega)).mono ?_
  rintro e w3 ⟨rfl, hb⟩
  replace B_x := Lib.hid (B_x.out.later (by repeat' (first | exact Below.refl _ _ | refine below_alloc ?_ _)) hb)
  replace B_y := Lib.hid (B_y.out.later (by repeat' (first | exact Below.refl _ _ | refine below_alloc ?_ _)) hb)
  clear x0 x1 x2
  replace HS := Lib.hid (HS.out.call (by repeat' (first | exact Below.refl _ _ | refine below_alloc ?_ _)) hb)
  clear hb
  obtain ⟨y0, y1, y2, _, _, _⟩ := id (B_y.out)
  go_wp2_with fail
  refine (slong_any Y.s Y.e (HS.out.get 1 rfl (by repeat' (first | exact Below.refl _ _ | refine below_alloc ?_ _))) (by have := HV.out.2.2; omega)).mono ?_
  rintro e w4 ⟨rfl, hb⟩
  replace B_x := Lib.hid (B_x.out.later (by repeat' (first | exact Below.refl _ _ | refine below_alloc ?_ _)) hb)
  replace B_y := Lib.hid (B_y.out.later (by repeat' (first | exact Below.refl _ _ | refine below_alloc ?_ _)) hb)
  clear y0 y1 y2
  replace HS := Lib.hid (HS.out.call (by repeat' (first | exact Below.refl _ _ | refine below_alloc ?_ _)) hb)
  clear hb
  obtain ⟨x0, x1, x2, _, _, _⟩ := id (B_x.out)
  go_wp2_with fail
  refine (dSign_v X.s X.e 0 (hT.below (below_step HS.out.1 (by repeat' (first | exact Below.refl _ _ | refine below_alloc ?_ _)))) (HS.out.get 0 rfl (by repeat' (first | exact Below.refl _ _ | refine below_alloc ?_ _))) HV.out.1.1 (by have := HV.out.1.2; omega) HZ.out.1).mono ?_
  rintro e w5 ⟨rfl, hb⟩
  replace B_x := Lib.hid (B_x.out.later (by repeat' (first | exact Below.refl _ _ | refine below_alloc ?_ _)) hb)
  replace B_y := Lib.hid (B_y.out.later (by repeat' (first | exact Below.refl _ _ | refine below_alloc ?_ _)) hb)
  clear x0 x1 x2
  replace HS := Lib.hid (HS.out.call (by repeat' (first | exact Below.refl _ _ | refine below_alloc ?_ _)) hb)
  clear hb
  go_wp2_with fail
  go_ret2
  exact ⟨rfl, HS.out.1⟩
end
end Go.Proofs.YtjlaadadbpffdaaDoor

namespace Go.Proofs.YtjlaadadbpffdaaDoor
open Go.RowKit Go.Plumb
section
variable {w : World} {a b : Option Addr} {n c m d : Nat} {l k : List Nat}
set_option maxHeartbeats 4000000 in
set_option maxRecDepth 20000 in
theorem sQuot_ok (s s' : Bool) (e e' : Int) (hT : Tab w) (h1 : Num w a n c l) (h2 : Num w b m d k) (hl : l.length ≤ 400) (hl' : k.length ≤ 400) (he : mayE e) (he' : mayE e') (h0 : valL k ≠ 0) (h0' : valL l ≠ 0) (W : Nat) (hW : quoD ⟨s, valL l, e⟩ ⟨s', valL k, e'⟩ = W) :
    Calls Tryd.prog 20 #[.agg #[.bool s, .slice a n c, .int .i64 e], .agg #[.bool s', .slice b m d, .int .i64 e']] w fun z w' => z = .returned (.tuple #[.float .f64 W, .int .i64 0]) ∧ Below w.heap.size w w' := by
  have X0 := (Boxed3.new w s a n c e 37 (g := w.heap.size) rfl).alloc (.cells #[.bool s', .slice b m d, .int .i64 e'] 37)
  have Y0 := Boxed3.new (w.alloc (.cells #[.bool s, .slice a n c, .int .i64 e] 37)) s' b m d e' 37 (g := w.heap.size + 1) (by simp)
  obtain ⟨X, hX⟩ : ∃ X, opnD ⟨s, valL l, e⟩ = X := ⟨_, rfl⟩
  obtain ⟨Y, hY⟩ : ∃ Y, opnD ⟨s', valL k, e'⟩ = Y := ⟨_, rfl⟩
  have hO := fun g w' (hb : Below w.heap.size w w') (hp) (hp') (hx) (hx') (hg) (hg') => sopen2 (w.heap.size) g w.heap.size (w.heap.size + 1) s s' a b n c m d l k e e' w' X Y hX hY (Nat.le_refl _) (Nat.le_succ _) hb.size hg hg' (by omega) (by omega) hp hp' hx hx' (h1.below hb) (h2.below hb) (fun w'' hb' => hT.below (hb.trans hb')) (by omega) (by omega) he he'
  have mX : mayE X.e := by rw [← hX]; exact opn_may (by exact he)
  have mY : mayE Y.e := by rw [← hY]; exact opn_may (by exact he')
  have sX := sign_opn mX
  have sY := sign_opn mY
  have z0 : Y.m ≠ 0 := by rw [← hY]; exact fun h => h0 ((opn_zero _).1 h)
  have z1 : X.m ≠ 0 := by rw [← hX]; exact fun h => h0' ((opn_zero _).1 h)
  rw [← quoD_opn (x := ⟨s, valL l, e⟩) (y := ⟨s', valL k, e'⟩) h0' h0, hX, hY] at hW
  have lX : (limbs X.m).length ≤ 400 := by
    have : X.m ≤ valL l := by rw [← hX]; unfold opnD; split; · exact nrm_le _
                              · exact Nat.le_refl _
    exact Nat.le_trans (length_mono this) (Nat.le_trans (len_of h1.limbs) hl)
  have lY : (limbs Y.m).length ≤ 400 := by
    have : Y.m ≤ valL k := by rw [← hY]; unfold opnD; split; · exact nrm_le _
                              · exact Nat.le_refl _
    exact Nat.le_trans (length_mono this) (Nat.le_trans (len_of h2.limbs) hl')
  rw [if_neg z0] at sY
  rw [if_neg z1] at sX
  obtain ⟨z, hz⟩ : ∃ z, signO Y = z := ⟨_, rfl⟩
  have hz0 : z ≠ 0 := by rw [← hz, sY]; split <;> decide
  obtain ⟨z', hz'⟩ : ∃ z, signO X = z := ⟨_, rfl⟩
  have hz0' : z' ≠ 0 := by rw [← hz', sX]; split <;> decide
  have HZ := Lib.hid (And.intro hz' hz)
  have bX := lenN_of_len lX
  have bY := lenN_of_len lY
  obtain ⟨N1, hN1⟩ : ∃ N, lenN X.m = N := ⟨_, rfl⟩
  obtain ⟨N2, hN2⟩ : ∃ N, lenN Y.m = N := ⟨_, rfl⟩
  obtain ⟨D, hD⟩ : ∃ D, N2 - N1 = D := ⟨_, rfl⟩
  obtain ⟨M, hM⟩ : ∃ M, X.m * 2 ^ (D + 66) = M := ⟨_, rfl⟩
  obtain ⟨G, hG⟩ : ∃ G, M / Y.m = G := ⟨_, rfl⟩
  obtain ⟨Rr, hRr⟩ : ∃ R, M % Y.m = R := ⟨_, rfl⟩
  have hmax : max 0 ((N2 : Int) - (N1 : Int)) = (D : Int) := by omega
  have lM : lenN M ≤ N1 + (D + 66) := by rw [← hM, ← hN1]; exact lenN_mul_pow _ _
  have hlM : (limbs M).length ≤ 1000 := len_of_lenN (by rw [hN1] at bX; rw [hN2] at bY; omega)
  have hG64 : 64 ≤ lenN G := by rw [← hG, ← hM]; exact quo_bits z1 z0 hN1 hN2 hD
  have hlG : (limbs G).length ≤ 4000 := by
    rw [← hG]
    exact Nat.le_trans (length_mono (Nat.div_le_self _ _)) (by omega)
  have hres : roundN (X.s != Y.s) (2 * G + (decide (Rr ≠ 0)).toNat) (X.e - Y.e - ((D : Int) + 66) - 1) = W := by
    rw [← hW, ← hRr, ← hG, ← hM, ← hD, ← hN1, ← hN2]
    unfold quoD quoR
    congr 1 <;> omega
  have HF := Lib.hid (And.intro hN1 (And.intro hN2 (And.intro hM (And.intro (show (limbs M).length ≤ 4096 by omega) (And.intro z0 (And.intro hG (And.intro hRr (And.intro hlM (And.intro hG64 (And.intro hlG hres))))))))))
  have bD : (D : Int) ≤ 25600 := by rw [hN2] at bY; omega
  have bD0 : (0 : Int) ≤ (D : Int) := by omega
  have bN1 : (N1 : Int) ≤ 25600 := by rw [hN1] at bX; omega
  have bN2 : (N2 : Int) ≤ 25600 := by rw [hN2] at bY; omega
  have bN1' : (0 : Int) ≤ (N1 : Int) := by omega
  have bN2' : (0 : Int) ≤ (N2 : Int) := by omega
  have bE1 : -262144 ≤ X.e := mX.1
  have bE2 : X.e ≤ 262144 := mX.2
  have bE3 : -262144 ≤ Y.e := mY.1
  have bE4 : Y.e ≤ 262144 := mY.2
  clear hX hY sX sY h1 h2 he he' mX mY z0 z1 h0 h0' hz hz' hN1 hN2 hD hM hG hRr lM hlM hG64 hlG hres hW bX bY lX lY
  go_enter Tryd.func20, Tryd.ntmps20
  go_wp2_with fail
  refine (hO _ _ (by repeat' (first | exact Below.refl _ _ | refine below_alloc ?_ _)) (by simp [go_sem]) (by simp [go_sem]) (X0.alloc _) (Y0.alloc _) (by omega) (by omega)).mono ?_
  rintro x w1 ⟨a_p, n_p, c_p, l1, a_q, n_q, c_q, l2, rfl, X1, N1, V1, Y1, N2, V2, hB1, A1⟩
  have HS : Hid (At w w1 [(a_p, n_p, c_p, l1), (a_q, n_q, c_q, l2)]) := Lib.hid ⟨Below.trans (by repeat' (first | exact Below.refl _ _ | refine below_alloc ?_ _)) hB1, N1, N2, trivial⟩
  have HV := Lib.hid (And.intro V1 V2)
  have B_x := Lib.hid X1
  have B_y := Lib.hid Y1
  clear hO X0 Y0 A1 hB1 N1 N2 V1 V2 X1 Y1
  obtain ⟨y0, y1, y2, _, _, _⟩ := id (B_y.out)
  go_wp2_with fail
  refine (dSign_v Y.s Y.e z (hT.below (below_step HS.out.1 (by repeat' (first | exact Below.refl _ _ | refine below_alloc ?_ _)))) (HS.out.get 1 rfl (by repeat' (first | exact Below.refl _ _ | refine below_alloc ?_ _))) HV.out.2.1 (by have := HV.out.2.2; omega) HZ.out.2).mono ?_
  rintro e w2 ⟨rfl, hb⟩
  replace B_x := Lib.hid (B_x.out.later (by repeat' (first | exact Below.refl _ _ | refine below_alloc ?_ _)) hb)
  replace B_y := Lib.hid (B_y.out.later (by repeat' (first | exact Below.refl _ _ | refine below_alloc ?_ _)) hb)
  clear y0 y1 y2
  replace HS := Lib.hid (HS.out.call (by repeat' (first | exact Below.refl _ _ | refine below_alloc ?_ _)) hb)
  clear hb
  obtain ⟨x0, x1, x2, _, _, _⟩ := id (B_x.out)
  go_wp2_with fail
  refine (slong_any X.s X.e (HS.out.get 0 rfl (by repeat' (first | exact Below.refl _ _ | refine below_alloc ?_ _))) (by have := HV.out.1.2; omega)).mono ?_
  rintro e w3 ⟨rfl, hb⟩
  replace B_x := Lib.hid (B_x.out.later (by repeat' (first | exact Below.refl _ _ | refine below_alloc ?_ _)) hb)
  replace B_y := Lib.hid (B_y.out.later (by repeat' (first | exact Below.refl _ _ | refine below_alloc ?_ _)) hb)
  clear x0 x1 x2
  replace HS := Lib.hid (HS.out.call (by repeat' (first | exact Below.refl _ _ | refine below_alloc ?_ _)) hb)
  clear hb
  obtain ⟨y0, y1, y2, _, _, _⟩ := id (B_y.out)
  go_wp2_with fail
  refine (slong_any Y.s Y.e (HS.out.get 1 rfl (by repeat' (first | exact Below.refl _ _ | refine below_alloc ?_ _))) (by have := HV.out.2.2; omega)).mono ?_
  rintro e w4 ⟨rfl, hb⟩
  replace B_x := Lib.hid (B_x.out.later (by repeat' (first | exact Below.refl _ _ | refine below_alloc ?_ _)) hb)
  replace B_y := Lib.hid (B_y.out.later (by repeat' (first | exact Below.refl _ _ | refine below_alloc ?_ _)) hb)
  clear y0 y1 y2
  replace HS := Lib.hid (HS.out.call (by repeat' (first | exact Below.refl _ _ | refine below_alloc ?_ _)) hb)
  clear hb
  obtain ⟨x0, x1, x2, _, _, _⟩ := id (B_x.out)
  go_wp2_with fail
  refine (dSign_v X.s X.e z' (hT.below (below_step HS.out.1 (by repeat' (first | exact Below.refl _ _ | refine below_alloc ?_ _)))) (HS.out.get 0 rfl (by repeat' (first | exact Below.refl _ _ | refine below_alloc ?_ _))) HV.out.1.1 (by have := HV.out.1.2; omega) HZ.out.1).mono ?_
  rintro e w5 ⟨rfl, hb⟩
  replace B_x := Lib.hid (B_x.out.later (by repeat' (first | exact Below.refl _ _ | refine below_alloc ?_ _)) hb)
  replace B_y := Lib.hid (B_y.out.later (by repeat' (first | exact Below.refl _ _ | refine below_alloc ?_ _)) hb)
  clear x0 x1 x2
  replace HS := Lib.hid (HS.out.call (by repeat' (first | exact Below.refl _ _ | refine below_alloc ?_ _)) hb)
  clear hb
  obtain ⟨x0, x1, x2, _, _, _⟩ := id (B_x.out)
  go_wp2_with fail
  refine (bits_v (HS.out.get 0 rfl (by repeat' (first | exact Below.refl _ _ | refine below_alloc ?_ _))) HV.out.1.1 HF.out.1 (by have := HV.out.1.2; omega)).mono ?_
  rintro e w6 ⟨rfl, hb⟩
  replace B_x := Lib.hid (B_x.out.later (by repeat' (first | exact Below.refl _ _ | refine below_alloc ?_ _)) hb)
  replace B_y := Lib.hid (B_y.out.later (by repeat' (first | exact Below.refl _ _ | refine below_alloc ?_ _)) hb)
  clear x0 x1 x2
  replace HS := Lib.hid (HS.out.call (by repeat' (first | exact Below.refl _ _ | refine below_alloc ?_ _)) hb)
  clear hb
  obtain ⟨y0, y1, y2, _, _, _⟩ := id (B_y.out)
  go_wp2_with fail
  refine (bits_v (HS.out.get 1 rfl (by repeat' (first | exact Below.refl _ _ | refine below_alloc ?_ _))) HV.out.2.1 HF.out.2.1 (by have := HV.out.2.2; omega)).mono ?_
  rintro e w7 ⟨rfl, hb⟩
  replace B_x := Lib.hid (B_x.out.later (by repeat' (first | exact Below.refl _ _ | refine below_alloc ?_ _)) hb)
  replace B_y := Lib.hid (B_y.out.later (by repeat' (first | exact Below.refl _ _ | refine below_alloc ?_ _)) hb)
  clear y0 y1 y2
  replace HS := Lib.hid (HS.out.call (by repeat' (first | exact Below.refl _ _ | refine below_alloc ?_ _)) hb)
  clear hb
  obtain ⟨x0, x1, x2, _, _, _⟩ := id (B_x.out)
  go_wp2_with fail
  refine (shl_v (k := (D : Int) + 66) (HS.out.get 0 rfl (by repeat' (first | exact Below.refl _ _ | refine below_alloc ?_ _))) HV.out.1.1 HF.out.2.2.1 (by simp) (by have := HV.out.1.2; omega) (by omega) HF.out.2.2.2.1).mono ?_
  rintro e w8 ⟨a_m, n_m, c_m, rfl, h0, hb⟩
  replace B_x := Lib.hid (B_x.out.later (by repeat' (first | exact Below.refl _ _ | refine below_alloc ?_ _)) hb)
  replace B_y := Lib.hid (B_y.out.later (by repeat' (first | exact Below.refl _ _ | refine below_alloc ?_ _)) hb)
  clear x0 x1 x2
  replace HS := Lib.hid (HS.out.num (by repeat' (first | exact Below.refl _ _ | refine below_alloc ?_ _)) hb h0)
  have L_m := Lib.hid h0.1
  clear hb h0
  obtain ⟨y0, y1, y2, _, _, _⟩ := id (B_y.out)
  go_wp2_with fail
  refine (div_v (HS.out.get 0 rfl (by repeat' (first | exact Below.refl _ _ | refine below_alloc ?_ _))) (HS.out.get 2 rfl (by repeat' (first | exact Below.refl _ _ | refine below_alloc ?_ _))) (valL_limbs _) HV.out.2.1 HF.out.2.2.2.2.1 HF.out.2.2.2.2.2.1 HF.out.2.2.2.2.2.2.1 (by have := HV.out.2.2; have := HF.out.2.2.2.2.2.2.2.1; omega)).mono ?_
  rintro e wd ⟨a_g, n_g, c_g, a_r, n_r, c_r, rfl, h0, hr, hb⟩
  have L_r := Lib.hid hr.1
  replace HS := Lib.hid ((HS.out.num (by repeat' (first | exact Below.refl _ _ | refine below_alloc ?_ _)) hb h0).num (Below.refl _ _) (Below.refl _ _) hr)
  replace B_x := Lib.hid (B_x.out.later (by repeat' (first | exact Below.refl _ _ | refine below_alloc ?_ _)) hb)
  replace B_y := Lib.hid (B_y.out.later (by repeat' (first | exact Below.refl _ _ | refine below_alloc ?_ _)) hb)
  clear hr h0 hb y0 y1 y2
  obtain ⟨x0, x1, x2, _, _, _⟩ := id B_x.out
  obtain ⟨y0, y1, y2, _, _, _⟩ := id B_y.out
  have hlr : decide (0 < n_r) = decide (Rr ≠ 0) := by
    have h := L_r.out
    by_cases h0 : Rr = 0
    · subst h0
      rw [limbs_zero] at h
      rw [h]
      rfl
    · have h1 : (limbs Rr).length ≠ 0 := fun h => h0 (limbs_nil.1 h)
      rw [decide_eq_true (show 0 < n_r by omega), decide_eq_true h0]
  have hres : roundN (X.s != Y.s) (2 * G + (decide (0 < n_r)).toNat) (X.e - Y.e - ((D : Int) + 66) - 1) = W := by rw [hlr]; exact HF.out.2.2.2.2.2.2.2.2.2.2
  have hf0 := fun w' (hb : Below wd.heap.size wd w') => sfloat_any (X.s != Y.s) G (X.e - Y.e - ((D : Int) + 66)) (decide (0 < n_r)) (HS.out.get 1 rfl hb) HF.out.2.2.2.2.2.2.2.2.1 HF.out.2.2.2.2.2.2.2.2.2.1 (by omega) (by omega)
  rw [hres] at hf0
  have hf : ∀ w', Below wd.heap.size wd w' → Calls Tryd.prog 53 #[.bool (!(X.s == Y.s)), .slice a_g n_g c_g, .int .i64 (X.e - Y.e - ((D : Int) + 66)), .bool (decide (0 < n_r))] w' fun z w'' => z = .returned (.float .f64 W) ∧ Below w'.heap.size w' w'' := hf0
  clear hf0 hres
  clear hlr
  go_wp2_with fail
  refine (hf _ (by repeat' (first | exact Below.refl _ _ | refine below_alloc ?_ _))).mono ?_
  rintro x w9 ⟨rfl, hb⟩
  go_wp2_with fail
  go_ret2
  exact ⟨rfl, below_step HS.out.1 hb⟩
theorem sQuot_any (s s' : Bool) (e e' : Int) (hT : Tab w) (h1 : Num w a n c l) (h2 : Num w b m d k) (hl : l.length ≤ 400) (hl' : k.length ≤ 400) (W : Nat) (r : Int) (hO : quoO ⟨s, valL l, e⟩ ⟨s', valL k, e'⟩ = (W, r)) :
    Calls Tryd.prog 20 #[.agg #[.bool s, .slice a n c, .int .i64 e], .agg #[.bool s', .slice b m d, .int .i64 e']] w fun z w' => z = .returned (.tuple #[.float .f64 W, .int .i64 r]) ∧ Below w.heap.size w w' := by
  unfold quoO at hO
  by_cases hm : mayE e
  · by_cases hm' : mayE e'
    · rw [if_pos ⟨hm, hm'⟩] at hO
      by_cases h0 : valL k = 0
      · rw [if_pos h0] at hO
        obtain ⟨rfl, rfl⟩ := Prod.mk.inj hO
        exact sQuot_zero s s' e e' hT h1 h2 hl hl' hm hm' h0
      · rw [if_neg h0] at hO
        by_cases h0' : valL l = 0
        · rw [if_pos h0'] at hO
          obtain ⟨rfl, rfl⟩ := Prod.mk.inj hO
          exact sQuot_nought s s' e e' hT h1 h2 hl hl' hm hm' h0 h0'
        · rw [if_neg h0'] at hO
          obtain ⟨hW, rfl⟩ := Prod.mk.inj hO
          exact sQuot_ok s s' e e' hT h1 h2 hl hl' hm hm' h0 h0' W hW
    · rw [if_neg (fun h => hm' h.2)] at hO
      obtain ⟨rfl, rfl⟩ := Prod.mk.inj hO
      exact sQuot_bad2 s s' e e' hT h1 h2 hl hl' hm hm'
  · rw [if_neg (fun h => hm h.1)] at hO
    obtain ⟨rfl, rfl⟩ := Prod.mk.inj hO
    exact sQuot_bad1 s s' e e' hT h1 h2 hl hl' hm
end
end Go.Proofs.YtjlaadadbpffdaaDoor

namespace Go.Proofs.YtjlaadadbpffdaaDoor
open Go.RowKit Go.Plumb
section
variable {w : World} {a b : Option Addr} {n c m d : Nat} {l k : List Nat}
theorem sRoot_bad (s : Bool) (e : Int) (hT : Tab w) (h1 : Num w a n c l) (hl : l.length ≤ 400) (he : ¬ mayE e) :
    Calls Tryd.prog 21 #[.agg #[.bool s, .slice a n c, .int .i64 e]] w fun z w' => z = .returned (.tuple #[.float .f64 0, .int .i64 2]) ∧ Below w.heap.size w w' := by
  have X0 := Boxed3.new w s a n c e 37 (g := w.heap.size) rfl
  have hO := fun g w' (hb : Below w.heap.size w w') (hp) (hx) (hg) => sopen_bad g w.heap.size 1 (by omega) (by omega) s a n c l e w' hg hp hx (h1.below hb) (by omega) he
  clear h1 hT he
  go_enter Tryd.func21, Tryd.ntmps21
  go_wp2_with fail
  refine (hO _ _ (by repeat' (first | exact Below.refl _ _ | refine below_alloc ?_ _)) (by simp [go_sem]) (X0.alloc _) (by omega)).mono ?_
  rintro x w1 ⟨rfl, hb1⟩
  go_wp2_with fail
  go_ret2
  exact ⟨rfl, below_step (by (repeat' (first | exact Below.refl _ _ | assumption | (refine below_alloc ?_ _) | (refine Below.setCell ?_ ?_ _) | (refine Below.drew ?_) | (refine below_drewN ?_ _))) <;> (first | (simp; done) | (simp; omega) | omega)) hb1⟩
set_option maxHeartbeats 2000000 in
theorem sRoot_neg (s : Bool) (e : Int) (hT : Tab w) (h1 : Num w a n c l) (hl : l.length ≤ 400) (he : mayE e) (h0 : valL l ≠ 0) (hs : s = true) :
    Calls Tryd.prog 21 #[.agg #[.bool s, .slice a n c, .int .i64 e]] w fun z w' => z = .returned (.tuple #[.float .f64 0, .int .i64 2]) ∧ Below w.heap.size w w' := by
  have X0 := Boxed3.new w s a n c e 37 (g := w.heap.size) rfl
  obtain ⟨X, hX⟩ : ∃ X, opnD ⟨s, valL l, e⟩ = X := ⟨_, rfl⟩
  have hO := fun g w' (hb : Below w.heap.size w w') (hp) (hx) (hg) => sopen1 w.heap.size g w.heap.size s a n c l e w' X hX (Nat.le_refl _) hb.size hg hp hx (h1.below hb) (hT.below hb) (by omega) he
  have mX : mayE X.e := by rw [← hX]; exact opn_may (by exact he)
  have sX := sign_opn mX
  have z0 : X.m ≠ 0 := by rw [← hX]; exact fun h => h0 ((opn_zero _).1 h)
  have zs : X.s = true := by rw [← hX, opn_s h0]; exact hs
  rw [if_neg z0, if_pos zs] at sX
  have HZ := Lib.hid sX
  clear hX sX h1 he mX z0 h0 zs hs
  go_enter Tryd.func21, Tryd.ntmps21
  go_wp2_with fail
  refine (hO _ _ (by repeat' (first | exact Below.refl _ _ | refine below_alloc ?_ _)) (by simp [go_sem]) (X0.alloc _) (by omega)).mono ?_
  rintro x w1 ⟨a_p, n_p, c_p, l1, rfl, X1, N1, V1, hB1, A1⟩
  have HS : Hid (At w w1 [(a_p, n_p, c_p, l1)]) := Lib.hid ⟨Below.trans (by repeat' (first | exact Below.refl _ _ | refine below_alloc ?_ _)) hB1, N1, trivial⟩
  have HV := Lib.hid V1
  have B_x := Lib.hid X1
  clear hO X0 A1 hB1 N1 V1 X1
  obtain ⟨x0, x1, x2, _, _, _⟩ := id (B_x.out)
  go_wp2_with fail
  refine (dSign_v X.s X.e (-1) (hT.below (below_step HS.out.1 (by repeat' (first | exact Below.refl _ _ | refine below_alloc ?_ _)))) (HS.out.get 0 rfl (by repeat' (first | exact Below.refl _ _ | refine below_alloc ?_ _))) HV.out.1 (by have := HV.out.2; omega) HZ.out).mono ?_
  rintro e w2 ⟨rfl, hb⟩
  replace B_x := Lib.hid (B_x.out.later (by repeat' (first | exact Below.refl _ _ | refine below_alloc ?_ _)) hb)
  clear x0 x1 x2
  replace HS := Lib.hid (HS.out.call (by repeat' (first | exact Below.refl _ _ | refine below_alloc ?_ _)) hb)
  clear hb
  go_wp2_with fail
  go_ret2
  exact ⟨rfl, HS.out.1⟩
set_option maxHeartbeats 2000000 in
theorem sRoot_nought (s : Bool) (e : Int) (hT : Tab w) (h1 : Num w a n c l) (hl : l.length ≤ 400) (he : mayE e) (h0 : valL l = 0) :
    Calls Tryd.prog 21 #[.agg #[.bool s, .slice a n c, .int .i64 e]] w fun z w' => z = .returned (.tuple #[.float .f64 0, .int .i64 0]) ∧ Below w.heap.size w w' := by
  have X0 := Boxed3.new w s a n c e 37 (g := w.heap.size) rfl
  obtain ⟨X, hX⟩ : ∃ X, opnD ⟨s, valL l, e⟩ = X := ⟨_, rfl⟩
  have hO := fun g w' (hb : Below w.heap.size w w') (hp) (hx) (hg) => sopen1 w.heap.size g w.heap.size s a n c l e w' X hX (Nat.le_refl _) hb.size hg hp hx (h1.below hb) (hT.below hb) (by omega) he
  have mX : mayE X.e := by rw [← hX]; exact opn_may (by exact he)
  have sX := sign_opn mX
  have z0 : X.m = 0 := by rw [← hX]; exact (opn_zero _).2 h0
  rw [if_pos z0] at sX
  have HZ := Lib.hid sX
  clear hX sX h1 he mX z0 h0
  go_enter Tryd.func21, Tryd.ntmps21
  go_wp2_with fail
  refine (hO _ _ (by repeat' (first | exact Below.refl _ _ | refine below_alloc ?_ _)) (by simp [go_sem]) (X0.alloc _) (by omega)).mono ?_
  rintro x w1 ⟨a_p, n_p, c_p, l1, rfl, X1, N1, V1, hB1, A1⟩
  have HS : Hid (At w w1 [(a_p, n_p, c_p, l1)]) := Lib.hid ⟨Below.trans (by repeat' (first | exact Below.refl _ _ | refine below_alloc ?_ _)) hB1, N1, trivial⟩
  have HV := Lib.hid V1
  have B_x := Lib.hid X1
  clear hO X0 A1 hB1 N1 V1 X1
  obtain ⟨x0, x1, x2, _, _, _⟩ := id (B_x.out)
  go_wp2_with fail
  refine (dSign_v X.s X.e 0 (hT.below (below_step HS.out.1 (by repeat' (first | exact Below.refl _ _ | refine below_alloc ?_ _)))) (HS.out.get 0 rfl (by repeat' (first | exact Below.refl _ _ | refine below_alloc ?_ _))) HV.out.1 (by have := HV.out.2; omega) HZ.out).mono ?_
  rintro e w2 ⟨rfl, hb⟩
  replace B_x := Lib.hid (B_x.out.later (by repeat' (first | exact Below.refl _ _ | refine below_alloc ?_ _)) hb)
  clear x0 x1 x2
  replace HS := Lib.hid (HS.out.call (by repeat' (first | exact Below.refl _ _ | refine below_alloc ?_ _)) hb)
  clear hb
  obtain ⟨x0, x1, x2, _, _, _⟩ := id (B_x.out)
  go_wp2_with fail
  refine (slong_any X.s X.e (HS.out.get 0 rfl (by repeat' (first | exact Below.refl _ _ | refine below_alloc ?_ _))) (by have := HV.out.2; omega)).mono ?_
  rintro e w3 ⟨rfl, hb⟩
  replace B_x := Lib.hid (B_x.out.later (by repeat' (first | exact Below.refl _ _ | refine below_alloc ?_ _)) hb)
  clear x0 x1 x2
  replace HS := Lib.hid (HS.out.call (by repeat' (first | exact Below.refl _ _ | refine below_alloc ?_ _)) hb)
  clear hb
  obtain ⟨x0, x1, x2, _, _, _⟩ := id (B_x.out)
  go_wp2_with fail
  refine (dSign_v X.s X.e 0 (hT.below (below_step HS.out.1 (by repeat' (first | exact Below.refl _ _ | refine below_alloc ?_ _)))) (HS.out.get 0 rfl (by repeat' (first | exact Below.refl _ _ | refine below_alloc ?_ _))) HV.out.1 (by have := HV.out.2; omega) HZ.out).mono ?_
  rintro e w4 ⟨rfl, hb⟩
  replace B_x := Lib.hid (B_x.out.later (by repeat' (first | exact Below.refl _ _ | refine below_alloc ?_ _)) hb)
  clear x0 x1 x2
  replace HS := Lib.hid (HS.out.call (by repeat' (first | exact Below.refl _ _ | refine below_alloc ?_ _)) hb)
  clear hb
  go_wp2_with fail
  go_ret2
  exact ⟨rfl, HS.out.1⟩
set_option maxHeartbeats 4000000 in
set_option maxRecDepth 20000 in
theorem sRoot_ok (s : Bool) (e : Int) (hT : Tab w) (h1 : Num w a n c l) (hl : l.length ≤ 400) (he : mayE e) (h0 : valL l ≠ 0) (hs : s = false) (W : Nat) (hW : rootD ⟨s, valL l, e⟩ = W) :
    Calls Tryd.prog 21 #[.agg #[.bool s, .slice a n c, .int .i64 e]] w fun z w' => z = .returned (.tuple #[.float .f64 W, .int .i64 0]) ∧ Below w.heap.size w w' := by
  have X0 := Boxed3.new w s a n c e 37 (g := w.heap.size) rfl
  obtain ⟨X, hX⟩ : ∃ X, opnD ⟨s, valL l, e⟩ = X := ⟨_, rfl⟩
  have hO := fun g w' (hb : Below w.heap.size w w') (hp) (hx) (hg) => sopen1 w.heap.size g w.heap.size s a n c l e w' X hX (Nat.le_refl _) hb.size hg hp hx (h1.below hb) (hT.below hb) (by omega) he
  have mX : mayE X.e := by rw [← hX]; exact opn_may (by exact he)
  have sX := sign_opn mX
  have z0 : X.m ≠ 0 := by rw [← hX]; exact fun h => h0 ((opn_zero _).1 h)
  have zs : ¬ X.s = true := by rw [← hX, opn_s h0]; simp [hs]
  rw [if_neg z0, if_neg zs] at sX
  rw [← rootD_opn (x := ⟨s, valL l, e⟩) h0, hX] at hW
  have lX : (limbs X.m).length ≤ 400 := by
    have : X.m ≤ valL l := by rw [← hX]; unfold opnD; split; · exact nrm_le _
                              · exact Nat.le_refl _
    exact Nat.le_trans (length_mono this) (Nat.le_trans (len_of h1.limbs) hl)
  have HZ := Lib.hid sX
  have bX := lenN_of_len lX
  obtain ⟨U, hU⟩ : ∃ U, (X.e % 2).toNat = U := ⟨_, rfl⟩
  have hU1 : X.e % 2 = (U : Int) := by omega
  have hUa : bits .and .i64 X.e 1 = (U : Int) := by rw [and_one_i64, hU1]
  obtain ⟨M, hM⟩ : ∃ M, X.m * 2 ^ (130 + U) = M := ⟨_, rfl⟩
  obtain ⟨S, hS⟩ : ∃ S, isqN M = S := ⟨_, rfl⟩
  obtain ⟨Rr, hRr⟩ : ∃ R, M = S * S + R := ⟨M - S * S, by have := (isqN_spec M).1; rw [hS] at this; omega⟩
  obtain ⟨V, hV⟩ : ∃ V, (X.e - (130 + (U : Int))) / 2 = V := ⟨_, rfl⟩
  have hV2 : X.e - (130 + (U : Int)) = 2 * V := by omega
  have hVd : (X.e - (130 + (U : Int))).tdiv 2 = V := by rw [hV2]; exact Int.mul_tdiv_cancel_left _ (by decide)
  have lM : lenN M ≤ lenN X.m + (130 + U) := by rw [← hM]; exact lenN_mul_pow _ _
  have hlM : (limbs M).length ≤ 1000 := len_of_lenN (by omega)
  have hS64 : 64 ≤ lenN S := root_bits z0 hM hS
  have hlS : (limbs S).length ≤ 4000 := by
    refine Nat.le_trans (length_mono (?_ : S ≤ M)) (by omega)
    rw [hRr]
    exact Nat.le_trans (Nat.le_mul_self S) (Nat.le_add_right _ _)
  have hres : roundN false (2 * S + (decide (Rr ≠ 0)).toNat) (V - 1) = W := by
    rw [← hW]
    unfold rootD rootR
    rw [hU, hM, hS]
    have e1 : decide (S * S ≠ M) = decide (Rr ≠ 0) := decide_eq_decide.2 (by omega)
    rw [e1]
    congr 1
    omega
  have HF := Lib.hid (And.intro hM (And.intro (show (limbs M).length ≤ 4096 by omega) (And.intro hS (And.intro hRr (And.intro hlM (And.intro hS64 (And.intro hlS hres)))))))
  have bU : (U : Int) ≤ 1 := by omega
  have bU0 : (0 : Int) ≤ (U : Int) := by omega
  have bE1 : -262144 ≤ X.e := mX.1
  have bE2 : X.e ≤ 262144 := mX.2
  have bV1 : -300000 ≤ V := by omega
  have bV2 : V ≤ 300000 := by omega
  clear hX sX h1 he mX z0 h0 zs hs hU hU1 hM hS hRr hV hV2 lM hlM hS64 hlS hres hW bX lX
  go_enter Tryd.func21, Tryd.ntmps21
  go_wp2_with fail
  refine (hO _ _ (by repeat' (first | exact Below.refl _ _ | refine below_alloc ?_ _)) (by simp [go_sem]) (X0.alloc _) (by omega)).mono ?_
  rintro x w1 ⟨a_p, n_p, c_p, l1, rfl, X1, N1, V1, hB1, A1⟩
  have HS : Hid (At w w1 [(a_p, n_p, c_p, l1)]) := Lib.hid ⟨Below.trans (by repeat' (first | exact Below.refl _ _ | refine below_alloc ?_ _)) hB1, N1, trivial⟩
  have HV := Lib.hid V1
  have B_x := Lib.hid X1
  clear hO X0 A1 hB1 N1 V1 X1
  obtain ⟨x0, x1, x2, _, _, _⟩ := id (B_x.out)
  go_wp2_with fail
  refine (dSign_v X.s X.e 1 (hT.below (below_step HS.out.1 (by repeat' (first | exact Below.refl _ _ | refine below_alloc ?_ _)))) (HS.out.get 0 rfl (by repeat' (first | exact Below.refl _ _ | refine below_alloc ?_ _))) HV.out.1 (by have := HV.out.2; omega) HZ.out).mono ?_
  rintro e w2 ⟨rfl, hb⟩
  replace B_x := Lib.hid (B_x.out.later (by repeat' (first | exact Below.refl _ _ | refine below_alloc ?_ _)) hb)
  clear x0 x1 x2
  replace HS := Lib.hid (HS.out.call (by repeat' (first | exact Below.refl _ _ | refine below_alloc ?_ _)) hb)
  clear hb
  obtain ⟨x0, x1, x2, _, _, _⟩ := id (B_x.out)
  go_wp2_with fail
  refine (slong_any X.s X.e (HS.out.get 0 rfl (by repeat' (first | exact Below.refl _ _ | refine below_alloc ?_ _))) (by have := HV.out.2; omega)).mono ?_
  rintro e w3 ⟨rfl, hb⟩
  replace B_x := Lib.hid (B_x.out.later (by repeat' (first | exact Below.refl _ _ | refine below_alloc ?_ _)) hb)
  clear x0 x1 x2
  replace HS := Lib.hid (HS.out.call (by repeat' (first | exact Below.refl _ _ | refine below_alloc ?_ _)) hb)
  clear hb
  obtain ⟨x0, x1, x2, _, _, _⟩ := id (B_x.out)
  go_wp2_with fail
  refine (dSign_v X.s X.e 1 (hT.below (below_step HS.out.1 (by repeat' (first | exact Below.refl _ _ | refine below_alloc ?_ _)))) (HS.out.get 0 rfl (by repeat' (first | exact Below.refl _ _ | refine below_alloc ?_ _))) HV.out.1 (by have := HV.out.2; omega) HZ.out).mono ?_
  rintro e w4 ⟨rfl, hb⟩
  replace B_x := Lib.hid (B_x.out.later (by repeat' (first | exact Below.refl _ _ | refine below_alloc ?_ _)) hb)
  clear x0 x1 x2
  replace HS := Lib.hid (HS.out.call (by repeat' (first | exact Below.refl _ _ | refine below_alloc ?_ _)) hb)
  clear hb
  obtain ⟨x0, x1, x2, _, _, _⟩ := id (B_x.out)
  go_wp2_with fail
  refine (shl_v (k := 130 + (U : Int)) (HS.out.get 0 rfl (by repeat' (first | exact Below.refl _ _ | refine below_alloc ?_ _))) HV.out.1 HF.out.1 (by simp) (by have := HV.out.2; omega) (by omega) HF.out.2.1).mono ?_
  rintro e w5 ⟨a_m, n_m, c_m, rfl, h0, hb⟩
  replace B_x := Lib.hid (B_x.out.later (by repeat' (first | exact Below.refl _ _ | refine below_alloc ?_ _)) hb)
  clear x0 x1 x2
  replace HS := Lib.hid (HS.out.num (by repeat' (first | exact Below.refl _ _ | refine below_alloc ?_ _)) hb h0)
  have L_m := Lib.hid h0.1
  clear hb h0
  obtain ⟨x0, x1, x2, _, _, _⟩ := id (B_x.out)
  go_wp2_with fail
  refine (sqrt_n S Rr (HS.out.get 0 rfl (by repeat' (first | exact Below.refl _ _ | refine below_alloc ?_ _))) (by rw [valL_limbs]; exact HF.out.2.2.1) (by rw [valL_limbs]; exact HF.out.2.2.2.1) (by have := HF.out.2.2.2.2.1; omega)).mono ?_
  rintro e wd ⟨a_g, n_g, c_g, a_r, n_r, c_r, rfl, h0, hr, hb⟩
  have L_r := Lib.hid hr.1
  replace HS := Lib.hid ((HS.out.num (by repeat' (first | exact Below.refl _ _ | refine below_alloc ?_ _)) hb h0).num (Below.refl _ _) (Below.refl _ _) hr)
  replace B_x := Lib.hid (B_x.out.later (by repeat' (first | exact Below.refl _ _ | refine below_alloc ?_ _)) hb)
  clear hr h0 hb x0 x1 x2
  obtain ⟨x0, x1, x2, _, _, _⟩ := id B_x.out
  have hlr : decide (0 < n_r) = decide (Rr ≠ 0) := by
    have h := L_r.out
    by_cases h0 : Rr = 0
    · subst h0
      rw [limbs_zero] at h
      rw [h]
      rfl
    · have h1 : (limbs Rr).length ≠ 0 := fun h => h0 (limbs_nil.1 h)
      rw [decide_eq_true (show 0 < n_r by omega), decide_eq_true h0]
  have hres : roundN (false) (2 * S + (decide (0 < n_r)).toNat) (V - 1) = W := by rw [hlr]; exact HF.out.2.2.2.2.2.2.2
  have hf0 := fun w' (hb : Below wd.heap.size wd w') => sfloat_any false S V (decide (0 < n_r)) (HS.out.get 1 rfl hb) HF.out.2.2.2.2.2.1 HF.out.2.2.2.2.2.2.1 (by omega) (by omega)
  rw [hres] at hf0
  have hf : ∀ w', Below wd.heap.size wd w' → Calls Tryd.prog 53 #[.bool false, .slice a_g n_g c_g, .int .i64 V, .bool (decide (0 < n_r))] w' fun z w'' => z = .returned (.float .f64 W) ∧ Below w'.heap.size w' w'' := hf0
  clear hf0 hres
  clear hlr
  go_wp2_with fail
  refine (hf _ (by repeat' (first | exact Below.refl _ _ | refine below_alloc ?_ _))).mono ?_
  rintro x w9 ⟨rfl, hb⟩
  go_wp2_with fail
  go_ret2
  exact ⟨rfl, below_step HS.out.1 hb⟩
theorem sRoot_any (s : Bool) (e : Int) (hT : Tab w) (h1 : Num w a n c l) (hl : l.length ≤ 400) (W : Nat) (r : Int) (hO : rootO ⟨s, valL l, e⟩ = (W, r)) :
    Calls Tryd.prog 21 #[.agg #[.bool s, .slice a n c, .int .i64 e]] w fun z w' => z = .returned (.tuple #[.float .f64 W, .int .i64 r]) ∧ Below w.heap.size w w' := by
  unfold rootO at hO
  by_cases hm : mayE e
  · rw [if_pos hm] at hO
    by_cases h0 : valL l = 0
    · rw [if_pos h0] at hO
      obtain ⟨rfl, rfl⟩ := Prod.mk.inj hO
      exact sRoot_nought s e hT h1 hl hm h0
    · rw [if_neg h0] at hO
      by_cases hs : s = true
      · rw [if_pos hs] at hO
        obtain ⟨rfl, rfl⟩ := Prod.mk.inj hO
        exact sRoot_neg s e hT h1 hl hm h0 hs
      · rw [if_neg hs] at hO
        obtain ⟨hW, rfl⟩ := Prod.mk.inj hO
        exact sRoot_ok s e hT h1 hl hm h0 (by simpa using hs) W hW
  · rw [if_neg hm] at hO
    obtain ⟨rfl, rfl⟩ := Prod.mk.inj hO
    exact sRoot_bad s e hT h1 hl hm
end
end Go.Proofs.YtjlaadadbpffdaaDoor
