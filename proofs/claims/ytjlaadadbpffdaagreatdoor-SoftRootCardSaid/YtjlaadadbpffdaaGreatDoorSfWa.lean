/-
  Layer 4's laws, walked: SoftQuot, SoftRoot.
-/
import Derived.Test.YtjlaadadbpffdaaGreatDoorSbQ
import Derived.Test.YtjlaadadbpffdaaGreatDoorSgX
set_option linter.unusedSimpArgs false
set_option linter.unusedVariables false
namespace Go.Proofs.YtjlaadadbpffdaaGreatDoor
open Go.RowKit Go.Plumb
section
variable {w : World} {a b : Option Addr} {n c m d : Nat} {l k : List Nat}
theorem much4_any (s : Bool) (e : Int) (hn : n ≤ 9223372036854775807) : Calls Tryz.prog 16 #[.agg #[.bool s, .slice a n c, .int .i64 e]] w fun x w' => x = .returned (.bool (decide ((20 : Int) < (n : Int)))) ∧ Below w.heap.size w w' := by
  go_enter Tryz.func16, Tryz.ntmps16
  go_wp2_with fail
  go_ret
  exact ⟨rfl, by (repeat' (first | exact Below.refl _ _ | assumption | (refine below_alloc ?_ _) | (refine Below.setCell ?_ ?_ _) | (refine Below.drew ?_) | (refine below_drewN ?_ _))) <;> (first | (simp; done) | (simp; omega) | omega)⟩
theorem num_max (h : Num w a n c l) : n ≤ 9223372036854775807 := by
  have h1 := h.1; have h2 := h.2.1; have h3 := h.2.2.1; unfold maxLen at h3; omega
set_option maxHeartbeats 4000000 in
set_option maxRecDepth 20000 in
theorem w_SoftQuot (w : World) (hT : Tab w) (sa : Bool) (a : Option Addr) (na ca : Nat) (la : List Nat) (ea : Int) (Ha : Num w a na ca la) (_ : -9223372036854775808 ≤ ea) (_ : ea ≤ 9223372036854775807) (sb : Bool) (b : Option Addr) (nb cb : Nat) (lb : List Nat) (eb : Int) (Hb : Num w b nb cb lb) (_ : -9223372036854775808 ≤ eb) (_ : eb ≤ 9223372036854775807) :
    Calls Tryz.prog 3 #[.agg #[.bool sa, .slice a na ca, .int .i64 ea], .agg #[.bool sb, .slice b nb cb, .int .i64 eb]] w fun e w' => e = .returned (.bool true) ∧ Below w.heap.size w w' := by
  have X0 := (Boxed3.new w sa a na ca ea 24 (g := w.heap.size) rfl).alloc (.cells #[.bool sb, .slice b nb cb, .int .i64 eb] 24)
  have Y0 := Boxed3.new (w.alloc (.cells #[.bool sa, .slice a na ca, .int .i64 ea] 24)) sb b nb cb eb 24 (g := w.heap.size + 1) (by simp)
  have ma := num_max Ha
  have mb := num_max Hb
  have M1 := fun w => much4_any (w := w) (a := a) (n := na) (c := ca) sa ea ma
  have M2 := fun w => much4_any (w := w) (a := b) (n := nb) (c := cb) sb eb mb
  have hK := fun wx (hb : Below w.heap.size w wx) => known4_any wx (hT.below hb)
  by_cases h1 : (20 : Int) < (na : Int)
  · simp only [decide_eq_true h1] at M1
    clear h1 ma mb Ha Hb M2
    obtain ⟨x0, x1, x2, _, _, _⟩ := id X0
    go_enter Tryz.func3, Tryz.ntmps3
    go_wp2_with fail
    refine (M1 _).mono ?_
    rintro e w1 ⟨rfl, hb⟩
    have HB1 := below_step (w0 := w) (by (repeat' (first | exact Below.refl _ _ | assumption | (refine below_alloc ?_ _) | (refine Below.setCell ?_ ?_ _) | (refine Below.drew ?_) | (refine below_drewN ?_ _))) <;> (first | (simp; done) | (simp; omega) | omega)) hb
    go_wp2_with fail
    refine (hK _ HB1).mono ?_
    rintro e w2 ⟨rfl, hb⟩
    go_wp2_with fail
    go_ret
    exact ⟨rfl, below_step HB1 hb⟩
  · simp only [decide_eq_false h1] at M1
    by_cases h2 : (20 : Int) < (nb : Int)
    · simp only [decide_eq_true h2] at M2
      clear h1 h2 ma mb Ha Hb
      obtain ⟨x0, x1, x2, _, _, _⟩ := id X0
      go_enter Tryz.func3, Tryz.ntmps3
      go_wp2_with fail
      refine (M1 _).mono ?_
      rintro e w1 ⟨rfl, hb⟩
      have HB1 := below_step (w0 := w) (by (repeat' (first | exact Below.refl _ _ | assumption | (refine below_alloc ?_ _) | (refine Below.setCell ?_ ?_ _) | (refine Below.drew ?_) | (refine below_drewN ?_ _))) <;> (first | (simp; done) | (simp; omega) | omega)) hb
      have Y1 := Y0.below hb
      clear hb X0 Y0 x0 x1 x2
      obtain ⟨y0, y1, y2, _, _, _⟩ := id Y1
      go_wp2_with fail
      refine (M2 _).mono ?_
      rintro e w2 ⟨rfl, hb⟩
      have HB2 := below_step HB1 hb
      go_wp2_with fail
      refine (hK _ HB2).mono ?_
      rintro e w3 ⟨rfl, hb⟩
      go_wp2_with fail
      go_ret
      exact ⟨rfl, below_step HB2 hb⟩
    · simp only [decide_eq_false h2] at M2
      have hla : la.length ≤ 20 := by have := Ha.1; omega
      have hlb : lb.length ≤ 20 := by have := Hb.1; omega
      obtain ⟨W, r, hO⟩ : ∃ W r, quoO ⟨sa, valL la, ea⟩ ⟨sb, valL lb, eb⟩ = (W, r) := ⟨_, _, rfl⟩
      have Q1 := fun wx (hb : Below w.heap.size w wx) => sQuot_any sa sb ea eb (hT.below hb) (Ha.below hb) (Hb.below hb) (by omega) (by omega) W r hO
      have Q2 := fun wx (hb : Below w.heap.size w wx) => rQuot4_any sa sb ea eb (Ha.below hb) (Hb.below hb) (by omega) (by omega) W r hO
      have hbits := run_bits W
      clear h1 h2 ma mb Ha Hb hla hlb hO
      obtain ⟨x0, x1, x2, _, _, _⟩ := id X0
      go_enter Tryz.func3, Tryz.ntmps3
      go_wp2_with fail
      refine (M1 _).mono ?_
      rintro e w1 ⟨rfl, hb⟩
      have HB1 := below_step (w0 := w) (by (repeat' (first | exact Below.refl _ _ | assumption | (refine below_alloc ?_ _) | (refine Below.setCell ?_ ?_ _) | (refine Below.drew ?_) | (refine below_drewN ?_ _))) <;> (first | (simp; done) | (simp; omega) | omega)) hb
      have X1 := X0.below hb
      have Y1 := Y0.below hb
      clear hb X0 Y0 x0 x1 x2 M1
      obtain ⟨y0, y1, y2, _, _, _⟩ := id Y1
      go_wp2_with fail
      refine (M2 _).mono ?_
      rintro e w2 ⟨rfl, hb⟩
      have HB2 := below_step HB1 hb
      have X2 := X1.below hb
      have Y2 := Y1.below hb
      clear hb X1 Y1 y0 y1 y2 M2 HB1
      obtain ⟨x0, x1, x2, _, _, _⟩ := id X2
      obtain ⟨y0, y1, y2, _, _, _⟩ := id Y2
      go_wp2_with fail
      refine (Q1 _ HB2).mono ?_
      rintro e w3 ⟨rfl, hb⟩
      have HB3 := below_step HB2 hb
      have X3 := X2.below hb
      have Y3 := Y2.below hb
      clear hb X2 Y2 x0 x1 x2 y0 y1 y2 Q1 HB2
      obtain ⟨x0, x1, x2, _, _, _⟩ := id X3
      obtain ⟨y0, y1, y2, _, _, _⟩ := id Y3
      go_wp2_with fail
      refine (Q2 _ HB3).mono ?_
      rintro e w4 ⟨rfl, hb⟩
      have HB4 := below_step HB3 hb
      clear hb X3 Y3 x0 x1 x2 y0 y1 y2 Q2 HB3
      go_wp2_with fail
      refine (num4_any r _).mono ?_
      rintro z w' ⟨rfl, rfl⟩
      go_wp2_with fail
      refine (hK _ HB4).mono ?_
      rintro e w5 ⟨rfl, hb⟩
      go_wp2_with fail
      go_ret
      exact ⟨rfl, below_step HB4 hb⟩
set_option maxHeartbeats 4000000 in
set_option maxRecDepth 20000 in
theorem w_SoftRoot (w : World) (hT : Tab w) (sa : Bool) (a : Option Addr) (na ca : Nat) (la : List Nat) (ea : Int) (Ha : Num w a na ca la) (_ : -9223372036854775808 ≤ ea) (_ : ea ≤ 9223372036854775807) :
    Calls Tryz.prog 4 #[.agg #[.bool sa, .slice a na ca, .int .i64 ea]] w fun e w' => e = .returned (.bool true) ∧ Below w.heap.size w w' := by
  have X0 := Boxed3.new w sa a na ca ea 24 (g := w.heap.size) rfl
  have ma := num_max Ha
  have M1 := fun w => much4_any (w := w) (a := a) (n := na) (c := ca) sa ea ma
  have hK := fun wx (hb : Below w.heap.size w wx) => known4_any wx (hT.below hb)
  by_cases h1 : (20 : Int) < (na : Int)
  · simp only [decide_eq_true h1] at M1
    clear h1 ma Ha
    obtain ⟨x0, x1, x2, _, _, _⟩ := id X0
    go_enter Tryz.func4, Tryz.ntmps4
    go_wp2_with fail
    refine (M1 _).mono ?_
    rintro e w1 ⟨rfl, hb⟩
    have HB1 := below_step (w0 := w) (by (repeat' (first | exact Below.refl _ _ | assumption | (refine below_alloc ?_ _) | (refine Below.setCell ?_ ?_ _) | (refine Below.drew ?_) | (refine below_drewN ?_ _))) <;> (first | (simp; done) | (simp; omega) | omega)) hb
    go_wp2_with fail
    refine (hK _ HB1).mono ?_
    rintro e w2 ⟨rfl, hb⟩
    go_wp2_with fail
    go_ret
    exact ⟨rfl, below_step HB1 hb⟩
  · simp only [decide_eq_false h1] at M1
    have hla : la.length ≤ 20 := by have := Ha.1; omega
    obtain ⟨W, r, hO⟩ : ∃ W r, rootO ⟨sa, valL la, ea⟩ = (W, r) := ⟨_, _, rfl⟩
    have Q1 := fun wx (hb : Below w.heap.size w wx) => sRoot_any sa ea (hT.below hb) (Ha.below hb) (by omega) W r hO
    have Q2 := fun wx (hb : Below w.heap.size w wx) => rRoot4_any sa ea (Ha.below hb) (by omega) W r hO
    have hbits := run_bits W
    clear h1 ma Ha hla hO
    obtain ⟨x0, x1, x2, _, _, _⟩ := id X0
    go_enter Tryz.func4, Tryz.ntmps4
    go_wp2_with fail
    refine (M1 _).mono ?_
    rintro e w1 ⟨rfl, hb⟩
    have HB1 := below_step (w0 := w) (by (repeat' (first | exact Below.refl _ _ | assumption | (refine below_alloc ?_ _) | (refine Below.setCell ?_ ?_ _) | (refine Below.drew ?_) | (refine below_drewN ?_ _))) <;> (first | (simp; done) | (simp; omega) | omega)) hb
    have X1 := X0.below hb
    clear hb X0 x0 x1 x2 M1
    obtain ⟨x0, x1, x2, _, _, _⟩ := id X1
    go_wp2_with fail
    refine (Q1 _ HB1).mono ?_
    rintro e w3 ⟨rfl, hb⟩
    have HB3 := below_step HB1 hb
    have X3 := X1.below hb
    clear hb X1 x0 x1 x2 Q1 HB1
    obtain ⟨x0, x1, x2, _, _, _⟩ := id X3
    go_wp2_with fail
    refine (Q2 _ HB3).mono ?_
    rintro e w4 ⟨rfl, hb⟩
    have HB4 := below_step HB3 hb
    clear hb X3 x0 x1 x2 Q2 HB3
    go_wp2_with fail
    refine (num4_any r _).mono ?_
    rintro z w' ⟨rfl, rfl⟩
    go_wp2_with fail
    refine (hK _ HB4).mono ?_
    rintro e w5 ⟨rfl, hb⟩
    go_wp2_with fail
    go_ret
    exact ⟨rfl, below_step HB4 hb⟩
end
end Go.Proofs.YtjlaadadbpffdaaGreatDoor
