/-
  dyad: lift, level.
-/
import Derived.Test.YtjlaadadbpffdaaGreatDoorDyD
import Derived.Deep.RegionHeld3
set_option linter.unusedSimpArgs false
set_option linter.unusedVariables false
namespace Go.Plumb
open Go.RowKit
/-- The three cells of a pair in a box. -/
structure BoxedP (w : World) (b : Nat) (e : Int) (a : Option Addr) (n c : Nat) (a' : Option Addr) (n' c' : Nat) : Prop where
  c0 : w.cell? ⟨b, 0, none⟩ = some (.int .i64 e)
  c1 : w.cell? ⟨b, 1, none⟩ = some (.slice a n c)
  c2 : w.cell? ⟨b, 2, none⟩ = some (.slice a' n' c')
  f0 : w.frozen? ⟨b, 0, none⟩ = false
  f1 : w.frozen? ⟨b, 1, none⟩ = false
  f2 : w.frozen? ⟨b, 2, none⟩ = false
theorem BoxedP.lt {w : World} {b : Nat} {e : Int} {a : Option Addr} {n c : Nat} {a' : Option Addr} {n' c' : Nat} (h : BoxedP w b e a n c a' n' c') : b < w.heap.size := cell_lt h.c0
theorem BoxedP.below {w w' : World} {b : Nat} {e : Int} {a : Option Addr} {n c : Nat} {a' : Option Addr} {n' c' : Nat} (h : BoxedP w b e a n c a' n' c') (hb : Below w.heap.size w w') : BoxedP w' b e a n c a' n' c' := by
  have hl := h.lt
  obtain ⟨hc, hf⟩ := bcell hb
  exact ⟨by rw [hc _ _ hl]; exact h.c0, by rw [hc _ _ hl]; exact h.c1, by rw [hc _ _ hl]; exact h.c2, by rw [hf _ _ hl]; exact h.f0, by rw [hf _ _ hl]; exact h.f1, by rw [hf _ _ hl]; exact h.f2⟩
theorem BoxedP.alloc {w : World} {b : Nat} {e : Int} {a : Option Addr} {n c : Nat} {a' : Option Addr} {n' c' : Nat} (h : BoxedP w b e a n c a' n' c') (o : Obj) : BoxedP (w.alloc o) b e a n c a' n' c' := h.below (below_alloc (Below.refl _ _) o)
theorem BoxedP.new (w : World) (e : Int) (a : Option Addr) (n c : Nat) (a' : Option Addr) (n' c' : Nat) (t : TypeId) {g : Nat} (hg : g = w.heap.size) : BoxedP (w.alloc (.cells #[.int .i64 e, .slice a n c, .slice a' n' c'] t)) g e a n c a' n' c' := by
  subst hg
  constructor <;> simp [go_sem]
theorem Boxed3.drew {w : World} {b : Nat} {s : Bool} {a : Option Addr} {n c : Nat} {e : Int} (h : Boxed3 w b s a n c e) : Boxed3 w.drew b s a n c e := ⟨h.c0, h.c1, h.c2, h.f0, h.f1, h.f2⟩
theorem BoxedP.drew {w : World} {b : Nat} {e : Int} {a : Option Addr} {n c : Nat} {a' : Option Addr} {n' c' : Nat} (h : BoxedP w b e a n c a' n' c') : BoxedP w.drew b e a n c a' n' c' := ⟨h.c0, h.c1, h.c2, h.f0, h.f1, h.f2⟩
theorem BoxedP.put {w : World} {b : Nat} {e : Int} {a : Option Addr} {n c : Nat} {a' : Option Addr} {n' c' : Nat} (h : BoxedP w b e a n c a' n' c') (x : Option Addr) (k d : Nat) (y : Option Addr) (k' d' : Nat) :
    BoxedP ((w.setCell ⟨b, 1, none⟩ (.slice x k d)).setCell ⟨b, 2, none⟩ (.slice y k' d')) b e x k d y k' d' := by
  obtain ⟨c0, c1, c2, f0, f1, f2⟩ := h
  constructor <;> simp [go_sem, c0, c1, c2, f0, f1, f2]
theorem BoxedP.other {w : World} {b k : Nat} {e : Int} {a : Option Addr} {n c : Nat} {a' : Option Addr} {n' c' : Nat} (h : BoxedP w b e a n c a' n' c') (hk : k ≠ b) (i : Nat) (v : Value) : BoxedP (w.setCell ⟨k, i, none⟩ v) b e a n c a' n' c' := by
  obtain ⟨c0, c1, c2, f0, f1, f2⟩ := h
  constructor <;> simp [go_sem, c0, c1, c2, f0, f1, f2, hk]
theorem Num.putP {w : World} {b : Nat} {e : Int} {a : Option Addr} {n c : Nat} {a' : Option Addr} {n' c' : Nat} (hP : BoxedP w b e a n c a' n' c') {x : Option Addr} {k d : Nat} {l : List Nat} (h : Num w x k d l) (v1 v2 : Value) :
    Num ((w.setCell ⟨b, 1, none⟩ v1).setCell ⟨b, 2, none⟩ v2) x k d l := by
  obtain ⟨c0, c1, c2, f0, f1, f2⟩ := hP
  exact (h.set c1 (by intro x h; cases h) _).set (u := .slice a' n' c') (by simp [go_sem, c2]) (by intro x h; cases h) _
theorem Num.fillR {w : World} {b : Nat} {e : Int} {a : Option Addr} {n c : Nat} {a' : Option Addr} {n' c' : Nat} (hP : BoxedP w b e a n c a' n' c') {x : Option Addr} {k d : Nat} {l : List Nat} (h : Num w x k d l) (v0 v1 v2 : Value) :
    Num (((w.setCell ⟨b, 0, none⟩ v0).setCell ⟨b, 1, none⟩ v1).setCell ⟨b, 2, none⟩ v2) x k d l := by
  obtain ⟨c0, c1, c2, f0, f1, f2⟩ := hP
  exact ((h.set c0 (by intro x h; cases h) _).set (u := .slice a n c) (by simp [go_sem, c1]) (by intro x h; cases h) _).set (u := .slice a' n' c') (by simp [go_sem, c2]) (by intro x h; cases h) _
theorem Num.drew {w : World} {a : Option Addr} {n c : Nat} {l : List Nat} (h : Num w a n c l) : Num w.drew a n c l := h
end Go.Plumb
namespace Go.Proofs.YtjlaadadbpffdaaGreatDoor
open Go.RowKit Go.Plumb

section
variable {w : World} {a : Option Addr} {n c : Nat} {l : List Nat}
set_option maxHeartbeats 1000000 in
theorem lift_any (s : Bool) (E e0 : Int) (k X : Nat) (h1 : Num w a n c l) (hl : l.length ≤ 4000) (hk : l ≠ [] → E - e0 = (k : Int)) (hX : valL l * 2 ^ k = X) (hlX : (limbs X).length ≤ 4096) (b0 : -1000000000 ≤ E) (b1 : E ≤ 1000000000) (b2 : -1000000000 ≤ e0) (b3 : e0 ≤ 1000000000) :
    Calls Tryz.prog 156 #[.agg #[.int .i64 e0], .agg #[.bool s, .slice a n c, .int .i64 E]] w fun x w' => ∃ a' n' c', x = .returned (.slice a' n' c') ∧ Num w' a' n' c' (limbs X) ∧ Below w.heap.size w w' := by
  by_cases h0 : l = []
  · subst h0
    obtain rfl : n = 0 := h1.1
    obtain rfl : X = 0 := by rw [← hX]; simp [valL]
    clear h1 hX hk hlX
    go_enter Tryz.func156, Tryz.ntmps156
    go_wp2_with fail
    go_ret
    exact ⟨none, 0, 0, rfl, (by show Num _ _ _ _ (limbs 0); rw [limbs_zero]; exact Num.nil _), by (repeat' (first | exact Below.refl _ _ | assumption | (refine below_alloc ?_ _) | (refine Below.setCell ?_ ?_ _) | (refine Below.drew ?_) | (refine below_drewN ?_ _))) <;> (first | (simp; done) | (simp; omega) | omega)⟩
  · have hk' := hk h0
    have hn : n ≠ 0 := by rw [h1.1]; exact fun h => h0 (List.length_eq_zero_iff.1 h)
    have hk2 : (k : Int) ≤ 2000000000 := by omega
    have hk3 : (0 : Int) ≤ k := by omega
    have hS := fun w' (hb : Below w.heap.size w w') => shl_n X k (h1.below hb) hX hl (by omega) hlX
    clear h1 hX hk hlX h0 hl
    go_enter Tryz.func156, Tryz.ntmps156
    go_wp2_with fail
    refine (hS _ (by repeat' (first | exact Below.refl _ _ | refine below_alloc ?_ _))).mono ?_
    rintro x w1 ⟨a1, n1, c1, rfl, h2, hb1⟩
    go_wp2_with fail
    go_ret
    exact ⟨a1, n1, c1, rfl, h2, below_step (by (repeat' (first | exact Below.refl _ _ | assumption | (refine below_alloc ?_ _) | (refine Below.setCell ?_ ?_ _) | (refine Below.drew ?_) | (refine below_drewN ?_ _))) <;> (first | (simp; done) | (simp; omega) | omega)) hb1⟩

set_option maxHeartbeats 4000000 in
theorem level_near (xs ys : Bool) (xe ye E : Int) (xm ym p q X Y : Nat) {b : Option Addr} {m d : Nat} (h1 : Num w a n c (limbs xm)) (h2 : Num w b m d (limbs ym)) (hl : (limbs xm).length ≤ 4000) (hl' : (limbs ym).length ≤ 4000)
    (hE : lowE ⟨xs, xm, xe⟩ ⟨ys, ym, ye⟩ = E) (hf : ¬ farD ⟨xs, xm, xe⟩ ⟨ys, ym, ye⟩) (hp : limbs xm ≠ [] → xe - E = (p : Int)) (hq : limbs ym ≠ [] → ye - E = (q : Int)) (hX : xm * 2 ^ p = X) (hY : ym * 2 ^ q = Y) (hlX : (limbs X).length ≤ 4096) (hlY : (limbs Y).length ≤ 4096)
    (b0 : -1000000000 ≤ xe) (b1 : xe ≤ 1000000000) (b2 : -1000000000 ≤ ye) (b3 : ye ≤ 1000000000) :
    Calls Tryz.prog 105 #[.agg #[.bool xs, .slice a n c, .int .i64 xe], .agg #[.bool ys, .slice b m d, .int .i64 ye]] w fun x w' => ∃ a' n' c' b' m' d', x = .returned (.tuple #[.agg #[.int .i64 E, .slice a' n' c', .slice b' m' d'], .int .i64 0]) ∧ Num w' a' n' c' (limbs X) ∧ Num w' b' m' d' (limbs Y) ∧ Below w.heap.size w w' := by
  have e0 : -1000000000 ≤ E := by rw [← hE]; unfold lowE; (repeat' split) <;> (try simp only) <;> omega
  have e1 : E ≤ 1000000000 := by rw [← hE]; unfold lowE; (repeat' split) <;> (try simp only) <;> omega
  have hL1 := fun w' (hb : Below w.heap.size w w') => lift_any xs xe E p X (h1.below hb) hl hp (by rw [valL_limbs]; exact hX) hlX b0 b1 e0 e1
  have hL2 := fun w' (hb : Below w.heap.size w w') => lift_any ys ye E q Y (h2.below hb) hl' hq (by rw [valL_limbs]; exact hY) hlY b2 b3 e0 e1
  obtain ⟨MN, hmn⟩ : ∃ z, min xe ye = z := ⟨_, rfl⟩
  obtain ⟨MX, hmx⟩ : ∃ z, max xe ye = z := ⟨_, rfl⟩
  have hmn0 : -1000000000 ≤ MN := by omega
  have hmn1 : MN ≤ 1000000000 := by omega
  have hmx0 : -1000000000 ≤ MX := by omega
  have hmx1 : MX ≤ 1000000000 := by omega
  have hn := h1.1
  have hm := h2.1
  have hcase : (n = 0 ∧ E = ye) ∨ (n ≠ 0 ∧ m = 0 ∧ E = xe) ∨ (n ≠ 0 ∧ m ≠ 0 ∧ E = MN ∧ decide ((262144 : Int) < MX - MN) = false) := by
    unfold lowE at hE
    unfold farD at hf
    by_cases hx : xm = 0
    · left; exact ⟨by rw [hn]; exact limbs_nil.2 hx, by rw [← hE, if_pos (by exact hx)]⟩
    · rw [if_neg (by exact hx)] at hE
      right
      by_cases hy : ym = 0
      · left; exact ⟨fun h => hx (limbs_nil.1 (by rw [← hn]; exact h)), by rw [hm]; exact limbs_nil.2 hy, by rw [← hE, if_pos (by exact hy)]⟩
      · right
        rw [if_neg (by exact hy)] at hE
        refine ⟨fun h => hx (limbs_nil.1 (by rw [← hn]; exact h)), fun h => hy (limbs_nil.1 (by rw [← hm]; exact h)), by rw [← hE, ← hmn], decide_eq_false fun h => hf ⟨hx, hy, by rw [← hmx, ← hmn] at h; exact h⟩⟩
  clear h1 h2 hE hf hp hq hX hY hlX hlY hl hl' hn hm
  obtain ⟨W0, hW0⟩ : ∃ W0, ((((w.alloc (.cells #[.bool xs, .slice a n c, .int .i64 xe] 24)).alloc (.cells #[.bool ys, .slice b m d, .int .i64 ye] 24)).alloc (.cells #[.int .i64 0, .slice none 0 0, .slice none 0 0] 114)).alloc (.cells #[.int .i64 E, .slice none 0 0, .slice none 0 0] 114)) = W0 := ⟨_, rfl⟩
  have HB0 : Below w.heap.size w W0 := by rw [← hW0]; (repeat' (first | exact Below.refl _ _ | assumption | (refine below_alloc ?_ _) | (refine Below.setCell ?_ ?_ _) | (refine Below.drew ?_) | (refine below_drewN ?_ _))) <;> (first | (simp; done) | (simp; omega) | omega)
  have X0 : Boxed3 W0 w.heap.size xs a n c xe := by rw [← hW0]; exact (((Boxed3.new _ _ _ _ _ _ _ rfl).alloc _).alloc _).alloc _
  have Y0 : Boxed3 W0 (w.heap.size + 1) ys b m d ye := by rw [← hW0]; exact ((Boxed3.new _ _ _ _ _ _ _ (by simp)).alloc _).alloc _
  have R0 : BoxedP W0 (w.heap.size + 1 + 1) 0 none 0 0 none 0 0 := by rw [← hW0]; exact (BoxedP.new _ _ _ _ _ _ _ _ _ (by simp)).alloc _
  have P0 : BoxedP W0 (w.heap.size + 1 + 1 + 1) E none 0 0 none 0 0 := by rw [← hW0]; exact BoxedP.new _ _ _ _ _ _ _ _ _ (by simp)
  rcases hcase with ⟨rfl, rfl⟩ | ⟨g1, rfl, rfl⟩ | ⟨g1, g2, rfl, g3⟩
  all_goals have HW0 := Lib.hid hW0
  all_goals clear hW0
  all_goals go_enter Tryz.func105, Tryz.ntmps105
  all_goals go_wp2_with fail
  all_goals rw [HW0.out]
  all_goals clear HW0
  all_goals obtain ⟨x0, x1, x2, _, _, _⟩ := id X0
  all_goals obtain ⟨y0, y1, y2, _, _, _⟩ := id Y0
  · have HX0 := Lib.hid X0
    go_region_held3 (fun wx => Below w.heap.size w wx ∧ wx.cell? ⟨w.heap.size, 0, none⟩ = some (.bool xs) ∧ wx.cell? ⟨w.heap.size, 1, none⟩ = some (.slice a 0 c) ∧ wx.cell? ⟨w.heap.size, 2, none⟩ = some (.int .i64 xe) ∧ wx.cell? ⟨w.heap.size + 1, 0, none⟩ = some (.bool ys) ∧ wx.cell? ⟨w.heap.size + 1, 1, none⟩ = some (.slice b m d) ∧ wx.cell? ⟨w.heap.size + 1, 2, none⟩ = some (.int .i64 E))
      ((repeat' (refine And.intro ?_ ?_)) <;> first | assumption | exact Below.drew (by assumption) | exact Below.setCell (by assumption) (by first | (simp; done) | (simp; omega)) _ | exact (World.cell?_setCell_far _ _ _ _ (by first | (simp; done) | (simp; omega))).trans (by assumption) | exact Below.setCell (Below.setCell (by assumption) (by first | (simp; done) | (simp; omega)) _) (by first | (simp; done) | (simp; omega)) _ | exact (World.cell?_setCell_far _ _ _ _ (by first | (simp; done) | (simp; omega))).trans ((World.cell?_setCell_far _ _ _ _ (by first | (simp; done) | (simp; omega))).trans (by assumption)))
      ((first | (go_at_call 156; (with_reducible refine (hL1 _ (by first | assumption | exact Below.drew (by assumption))).mono ?_); rintro e w1 ⟨a1, n1, c1, rfl, N1, hb⟩; have X1 := (X0.drew).below hb; have Y1 := (Y0.drew).below hb; have P1 := (P0.drew).below hb; have R1 := (R0.drew).below hb; have HB1 := below_step (w0 := w) (Below.drew HB0) hb; obtain ⟨x0, x1, x2, _, _, _⟩ := id X1; obtain ⟨y0, y1, y2, _, _, _⟩ := id Y1; clear hb) | (go_at_call 156; (with_reducible refine (hL2 _ (by first | assumption | exact Below.drew (by assumption))).mono ?_); rintro e w2 ⟨a2, n2, c2, rfl, N2, hb⟩; have N3 := N1.below hb; have X2 := X1.below hb; have Y2 := Y1.below hb; have P2 := P1.below hb; have R2 := R1.below hb; have HB2 := below_step (w0 := w) HB1 hb; clear x0 x1 x2 y0 y1 y2; obtain ⟨x0, x1, x2, _, _, _⟩ := id X2; obtain ⟨y0, y1, y2, _, _, _⟩ := id Y2; obtain ⟨p0, p1, p2, q0, q1, q2⟩ := id P2; clear hb)))
    obtain ⟨W5, hW5⟩ : ∃ W5, (w2.setCell ⟨w.heap.size + 1 + 1 + 1, 1, none⟩ (.slice a1 n1 c1)).setCell ⟨w.heap.size + 1 + 1 + 1, 2, none⟩ (.slice a2 n2 c2) = W5 := ⟨_, rfl⟩
    have P5 : BoxedP W5 (w.heap.size + 1 + 1 + 1) E a1 n1 c1 a2 n2 c2 := by rw [← hW5]; exact P2.put ..
    have R5 : BoxedP W5 (w.heap.size + 1 + 1) 0 none 0 0 none 0 0 := by rw [← hW5]; exact (R2.other (by omega) _ _).other (by omega) _ _
    have N5 : Num W5 a1 n1 c1 (limbs X) := by rw [← hW5]; exact Num.putP P2 N3 ..
    have M5 : Num W5 a2 n2 c2 (limbs Y) := by rw [← hW5]; exact Num.putP P2 N2 ..
    have HB5 : Below w.heap.size w W5 := by rw [← hW5]; exact (HB2.setCell (p := ⟨w.heap.size + 1 + 1 + 1, 1, none⟩) (by simp; omega) _).setCell (p := ⟨w.heap.size + 1 + 1 + 1, 2, none⟩) (by simp; omega) _
    rw [hW5]
    clear hW5 N3 N2 X2 Y2 P2 R2 HB2 x0 x1 x2 y0 y1 y2 p0 p1 p2 q0 q1 q2 X0 Y0 R0 P0 HX0 N1 X1 Y1 P1 R1 HB1 hL1 hL2 HB0
    obtain ⟨p0, p1, p2, q0, q1, q2⟩ := id P5
    obtain ⟨r0, r1, r2, g0, g1, g2⟩ := id R5
    have H5 := Lib.hid (And.intro N5 (And.intro M5 HB5))
    clear N5 M5 HB5
    go_wp2_with fail
    refine bodyPost_ret (v := .tuple #[.agg #[.int .i64 E, .slice a1 n1 c1, .slice a2 n2 c2], .int .i64 0]) (by simp [results, Tryz.results105, go_sem, r0, r1, r2, g0, g1, g2]) rfl ⟨a1, n1, c1, a2, n2, c2, rfl, Num.fillR R5 H5.out.1 .., Num.fillR R5 H5.out.2.1 .., ?_⟩
    exact ((H5.out.2.2.setCell (p := ⟨w.heap.size + 1 + 1, 0, none⟩) (by simp; omega) _).setCell (p := ⟨w.heap.size + 1 + 1, 1, none⟩) (by simp; omega) _).setCell (p := ⟨w.heap.size + 1 + 1, 2, none⟩) (by simp; omega) _
  · have HX0 := Lib.hid X0
    go_region_held3 (fun wx => Below w.heap.size w wx ∧ wx.cell? ⟨w.heap.size, 0, none⟩ = some (.bool xs) ∧ wx.cell? ⟨w.heap.size, 1, none⟩ = some (.slice a n c) ∧ wx.cell? ⟨w.heap.size, 2, none⟩ = some (.int .i64 E) ∧ wx.cell? ⟨w.heap.size + 1, 0, none⟩ = some (.bool ys) ∧ wx.cell? ⟨w.heap.size + 1, 1, none⟩ = some (.slice b 0 d) ∧ wx.cell? ⟨w.heap.size + 1, 2, none⟩ = some (.int .i64 ye))
      ((repeat' (refine And.intro ?_ ?_)) <;> first | assumption | exact Below.drew (by assumption) | exact Below.setCell (by assumption) (by first | (simp; done) | (simp; omega)) _ | exact (World.cell?_setCell_far _ _ _ _ (by first | (simp; done) | (simp; omega))).trans (by assumption) | exact Below.setCell (Below.setCell (by assumption) (by first | (simp; done) | (simp; omega)) _) (by first | (simp; done) | (simp; omega)) _ | exact (World.cell?_setCell_far _ _ _ _ (by first | (simp; done) | (simp; omega))).trans ((World.cell?_setCell_far _ _ _ _ (by first | (simp; done) | (simp; omega))).trans (by assumption)))
      ((first | (go_at_call 156; (with_reducible refine (hL1 _ (by first | assumption | exact Below.drew (by assumption))).mono ?_); rintro e w1 ⟨a1, n1, c1, rfl, N1, hb⟩; have X1 := (X0.drew).below hb; have Y1 := (Y0.drew).below hb; have P1 := (P0.drew).below hb; have R1 := (R0.drew).below hb; have HB1 := below_step (w0 := w) (Below.drew HB0) hb; obtain ⟨x0, x1, x2, _, _, _⟩ := id X1; obtain ⟨y0, y1, y2, _, _, _⟩ := id Y1; clear hb) | (go_at_call 156; (with_reducible refine (hL2 _ (by first | assumption | exact Below.drew (by assumption))).mono ?_); rintro e w2 ⟨a2, n2, c2, rfl, N2, hb⟩; have N3 := N1.below hb; have X2 := X1.below hb; have Y2 := Y1.below hb; have P2 := P1.below hb; have R2 := R1.below hb; have HB2 := below_step (w0 := w) HB1 hb; clear x0 x1 x2 y0 y1 y2; obtain ⟨x0, x1, x2, _, _, _⟩ := id X2; obtain ⟨y0, y1, y2, _, _, _⟩ := id Y2; obtain ⟨p0, p1, p2, q0, q1, q2⟩ := id P2; clear hb)))
    obtain ⟨W5, hW5⟩ : ∃ W5, (w2.setCell ⟨w.heap.size + 1 + 1 + 1, 1, none⟩ (.slice a1 n1 c1)).setCell ⟨w.heap.size + 1 + 1 + 1, 2, none⟩ (.slice a2 n2 c2) = W5 := ⟨_, rfl⟩
    have P5 : BoxedP W5 (w.heap.size + 1 + 1 + 1) E a1 n1 c1 a2 n2 c2 := by rw [← hW5]; exact P2.put ..
    have R5 : BoxedP W5 (w.heap.size + 1 + 1) 0 none 0 0 none 0 0 := by rw [← hW5]; exact (R2.other (by omega) _ _).other (by omega) _ _
    have N5 : Num W5 a1 n1 c1 (limbs X) := by rw [← hW5]; exact Num.putP P2 N3 ..
    have M5 : Num W5 a2 n2 c2 (limbs Y) := by rw [← hW5]; exact Num.putP P2 N2 ..
    have HB5 : Below w.heap.size w W5 := by rw [← hW5]; exact (HB2.setCell (p := ⟨w.heap.size + 1 + 1 + 1, 1, none⟩) (by simp; omega) _).setCell (p := ⟨w.heap.size + 1 + 1 + 1, 2, none⟩) (by simp; omega) _
    rw [hW5]
    clear hW5 N3 N2 X2 Y2 P2 R2 HB2 x0 x1 x2 y0 y1 y2 p0 p1 p2 q0 q1 q2 X0 Y0 R0 P0 HX0 N1 X1 Y1 P1 R1 HB1 hL1 hL2 HB0
    obtain ⟨p0, p1, p2, q0, q1, q2⟩ := id P5
    obtain ⟨r0, r1, r2, g0, g1, g2⟩ := id R5
    have H5 := Lib.hid (And.intro N5 (And.intro M5 HB5))
    clear N5 M5 HB5
    go_wp2_with fail
    refine bodyPost_ret (v := .tuple #[.agg #[.int .i64 E, .slice a1 n1 c1, .slice a2 n2 c2], .int .i64 0]) (by simp [results, Tryz.results105, go_sem, r0, r1, r2, g0, g1, g2]) rfl ⟨a1, n1, c1, a2, n2, c2, rfl, Num.fillR R5 H5.out.1 .., Num.fillR R5 H5.out.2.1 .., ?_⟩
    exact ((H5.out.2.2.setCell (p := ⟨w.heap.size + 1 + 1, 0, none⟩) (by simp; omega) _).setCell (p := ⟨w.heap.size + 1 + 1, 1, none⟩) (by simp; omega) _).setCell (p := ⟨w.heap.size + 1 + 1, 2, none⟩) (by simp; omega) _
  · have HX0 := Lib.hid X0
    go_region_held3 (fun wx => Below w.heap.size w wx ∧ wx.cell? ⟨w.heap.size, 0, none⟩ = some (.bool xs) ∧ wx.cell? ⟨w.heap.size, 1, none⟩ = some (.slice a n c) ∧ wx.cell? ⟨w.heap.size, 2, none⟩ = some (.int .i64 xe) ∧ wx.cell? ⟨w.heap.size + 1, 0, none⟩ = some (.bool ys) ∧ wx.cell? ⟨w.heap.size + 1, 1, none⟩ = some (.slice b m d) ∧ wx.cell? ⟨w.heap.size + 1, 2, none⟩ = some (.int .i64 ye))
      ((repeat' (refine And.intro ?_ ?_)) <;> first | assumption | exact Below.drew (by assumption) | exact Below.setCell (by assumption) (by first | (simp; done) | (simp; omega)) _ | exact (World.cell?_setCell_far _ _ _ _ (by first | (simp; done) | (simp; omega))).trans (by assumption) | exact Below.setCell (Below.setCell (by assumption) (by first | (simp; done) | (simp; omega)) _) (by first | (simp; done) | (simp; omega)) _ | exact (World.cell?_setCell_far _ _ _ _ (by first | (simp; done) | (simp; omega))).trans ((World.cell?_setCell_far _ _ _ _ (by first | (simp; done) | (simp; omega))).trans (by assumption)))
      ((first | (go_at_call 156; (with_reducible refine (hL1 _ (by first | assumption | exact Below.drew (by assumption))).mono ?_); rintro e w1 ⟨a1, n1, c1, rfl, N1, hb⟩; have X1 := (X0.drew).below hb; have Y1 := (Y0.drew).below hb; have P1 := (P0.drew).below hb; have R1 := (R0.drew).below hb; have HB1 := below_step (w0 := w) (Below.drew HB0) hb; obtain ⟨x0, x1, x2, _, _, _⟩ := id X1; obtain ⟨y0, y1, y2, _, _, _⟩ := id Y1; clear hb) | (go_at_call 156; (with_reducible refine (hL2 _ (by first | assumption | exact Below.drew (by assumption))).mono ?_); rintro e w2 ⟨a2, n2, c2, rfl, N2, hb⟩; have N3 := N1.below hb; have X2 := X1.below hb; have Y2 := Y1.below hb; have P2 := P1.below hb; have R2 := R1.below hb; have HB2 := below_step (w0 := w) HB1 hb; clear x0 x1 x2 y0 y1 y2; obtain ⟨x0, x1, x2, _, _, _⟩ := id X2; obtain ⟨y0, y1, y2, _, _, _⟩ := id Y2; obtain ⟨p0, p1, p2, q0, q1, q2⟩ := id P2; clear hb)))
    obtain ⟨W5, hW5⟩ : ∃ W5, (w2.setCell ⟨w.heap.size + 1 + 1 + 1, 1, none⟩ (.slice a1 n1 c1)).setCell ⟨w.heap.size + 1 + 1 + 1, 2, none⟩ (.slice a2 n2 c2) = W5 := ⟨_, rfl⟩
    have P5 : BoxedP W5 (w.heap.size + 1 + 1 + 1) E a1 n1 c1 a2 n2 c2 := by rw [← hW5]; exact P2.put ..
    have R5 : BoxedP W5 (w.heap.size + 1 + 1) 0 none 0 0 none 0 0 := by rw [← hW5]; exact (R2.other (by omega) _ _).other (by omega) _ _
    have N5 : Num W5 a1 n1 c1 (limbs X) := by rw [← hW5]; exact Num.putP P2 N3 ..
    have M5 : Num W5 a2 n2 c2 (limbs Y) := by rw [← hW5]; exact Num.putP P2 N2 ..
    have HB5 : Below w.heap.size w W5 := by rw [← hW5]; exact (HB2.setCell (p := ⟨w.heap.size + 1 + 1 + 1, 1, none⟩) (by simp; omega) _).setCell (p := ⟨w.heap.size + 1 + 1 + 1, 2, none⟩) (by simp; omega) _
    rw [hW5]
    clear hW5 N3 N2 X2 Y2 P2 R2 HB2 x0 x1 x2 y0 y1 y2 p0 p1 p2 q0 q1 q2 X0 Y0 R0 P0 HX0 N1 X1 Y1 P1 R1 HB1 hL1 hL2 HB0
    obtain ⟨p0, p1, p2, q0, q1, q2⟩ := id P5
    obtain ⟨r0, r1, r2, g0, g1, g2⟩ := id R5
    have H5 := Lib.hid (And.intro N5 (And.intro M5 HB5))
    clear N5 M5 HB5
    go_wp2_with fail
    refine bodyPost_ret (v := .tuple #[.agg #[.int .i64 E, .slice a1 n1 c1, .slice a2 n2 c2], .int .i64 0]) (by simp [results, Tryz.results105, go_sem, r0, r1, r2, g0, g1, g2]) rfl ⟨a1, n1, c1, a2, n2, c2, rfl, Num.fillR R5 H5.out.1 .., Num.fillR R5 H5.out.2.1 .., ?_⟩
    exact ((H5.out.2.2.setCell (p := ⟨w.heap.size + 1 + 1, 0, none⟩) (by simp; omega) _).setCell (p := ⟨w.heap.size + 1 + 1, 1, none⟩) (by simp; omega) _).setCell (p := ⟨w.heap.size + 1 + 1, 2, none⟩) (by simp; omega) _

set_option maxHeartbeats 2000000 in
theorem level_far (xs ys : Bool) (xe ye : Int) (xm ym : Nat) {b : Option Addr} {m d : Nat} (h1 : Num w a n c (limbs xm)) (h2 : Num w b m d (limbs ym)) (hf : farD ⟨xs, xm, xe⟩ ⟨ys, ym, ye⟩)
    (b0 : -1000000000 ≤ xe) (b1 : xe ≤ 1000000000) (b2 : -1000000000 ≤ ye) (b3 : ye ≤ 1000000000) :
    Calls Tryz.prog 105 #[.agg #[.bool xs, .slice a n c, .int .i64 xe], .agg #[.bool ys, .slice b m d, .int .i64 ye]] w fun x w' => x = .returned (.tuple #[.agg #[.int .i64 0, .slice none 0 0, .slice none 0 0], .int .i64 3]) ∧ Below w.heap.size w w' := by
  obtain ⟨hx, hy, hfe⟩ := hf
  have g1 : n ≠ 0 := fun h => hx (limbs_nil.1 (by rw [← h1.1]; exact h))
  have g2 : m ≠ 0 := fun h => hy (limbs_nil.1 (by rw [← h2.1]; exact h))
  obtain ⟨MN, hmn⟩ : ∃ z, min xe ye = z := ⟨_, rfl⟩
  obtain ⟨MX, hmx⟩ : ∃ z, max xe ye = z := ⟨_, rfl⟩
  have g3 : decide ((262144 : Int) < MX - MN) = true := decide_eq_true (by rw [← hmx, ← hmn]; exact hfe)
  have hmn0 : -1000000000 ≤ MN := by omega
  have hmn1 : MN ≤ 1000000000 := by omega
  have hmx0 : -1000000000 ≤ MX := by omega
  have hmx1 : MX ≤ 1000000000 := by omega
  clear hx hy hfe h1 h2
  go_enter Tryz.func105, Tryz.ntmps105
  go_wp2_with fail
  refine bodyPost_ret (v := .tuple #[.agg #[.int .i64 0, .slice none 0 0, .slice none 0 0], .int .i64 3]) (by simp [results, Tryz.results105, go_sem]) rfl ⟨rfl, ?_⟩
  (repeat' (first | exact Below.refl _ _ | assumption | (refine below_alloc ?_ _) | (refine Below.setCell ?_ ?_ _) | (refine Below.drew ?_) | (refine below_drewN ?_ _))) <;> (first | (simp; done) | (simp; omega) | omega)
end
end Go.Proofs.YtjlaadadbpffdaaGreatDoor
