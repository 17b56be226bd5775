/-
  dyad.Add at every two numbers that are near or far.
-/
import Derived.Test.YtjlaadadbpffdaaGreatDoorDyE
set_option linter.unusedSimpArgs false
set_option linter.unusedVariables false
namespace Go.Plumb
open Go.RowKit
/-- How far apart two may be to be summed here. -/
def nearD (x y : Dy) : Prop := x.m = 0 ∨ y.m = 0 ∨ (x.e - y.e ≤ 12000 ∧ y.e - x.e ≤ 12000)
theorem pow_len {X m p k : Nat} (hX : X = m * 2 ^ p) (hm : (limbs m).length ≤ k) (hp : p ≤ 12000) : (limbs X).length ≤ k + 188 := by
  apply length_limbs_le
  have h1 := lt_pow_length m
  have h2 : 18446744073709551616 ^ (limbs m).length ≤ 18446744073709551616 ^ k := Nat.pow_le_pow_right (by decide) hm
  obtain ⟨j, hj⟩ : ∃ j, j = 188 := ⟨_, rfl⟩
  rw [← hj]
  have h3 : 2 ^ p ≤ 18446744073709551616 ^ j := by rw [powB64]; exact Nat.pow_le_pow_right (by decide) (by omega)
  rw [hX, Nat.pow_add]
  exact Nat.mul_lt_mul_of_lt_of_le (by omega) h3 (Nat.pow_pos (by decide))
theorem cmp_lt {x y : Nat} (h : x < y) : cmpN x y = -1 := by unfold cmpN; rw [if_pos h]
theorem cmp_ge {x y : Nat} (h : ¬ x < y) : cmpN x y = 0 ∨ cmpN x y = 1 := by unfold cmpN; rw [if_neg h]; split <;> simp
end Go.Plumb
namespace Go.Proofs.YtjlaadadbpffdaaGreatDoor
open Go.RowKit Go.Plumb

section
variable {w : World} {a b : Option Addr} {n c m d : Nat} {l k : List Nat}
set_option maxHeartbeats 1000000 in
/-- The closure that makes the answer. -/
theorem answer_any (s : Bool) (x : Nat) (E : Int) (g : Nat) (R : Dy) (r : Int) (hT : Tab w) (hg : w.cell? ⟨g, 0, none⟩ = some (.int .i64 E)) (h1 : Num w a n c (limbs x)) (hl : (limbs x).length ≤ 4000) (b0 : -1000000000 ≤ E) (b1 : E ≤ 1000000000) (hO : doneO ⟨s, x, E⟩ = (R, r)) :
    Calls Tryz.prog 106 #[.bool s, .slice a n c, .int .i64 0, .pointer (some ⟨g, 0, none⟩)] w fun z w' => ∃ a' n' c', z = .returned (.tuple #[.agg #[.bool R.s, .slice a' n' c', .int .i64 R.e], .int .i64 r]) ∧ Num w' a' n' c' (limbs R.m) ∧ Below w.heap.size w w' := by
  have hD := fun w' (hb : Below w.heap.size w w') => ddone_any s E (hT.below hb) (h1.below hb) hl b0 b1
  simp only [valL_limbs, hO] at hD
  have hgl := cell_lt hg
  obtain ⟨zs, zm, ze⟩ := R
  simp only at hD ⊢
  have R0 := Boxed3.new w false none 0 0 0 24 rfl
  clear hO hT h1 hl
  go_enter Tryz.func106, Tryz.ntmps106
  go_wp2_with fail
  refine (hD _ (by repeat' (first | exact Below.refl _ _ | refine below_alloc ?_ _))).mono ?_
  rintro z w1 ⟨a1, n1, c1, rfl, N1, hb⟩
  have R1 := R0.below hb
  have hB := below_step (w0 := w) (by (repeat' (first | exact Below.refl _ _ | assumption | (refine below_alloc ?_ _) | (refine Below.setCell ?_ ?_ _) | (refine Below.drew ?_) | (refine below_drewN ?_ _))) <;> (first | (simp; done) | (simp; omega) | omega)) hb
  obtain ⟨r0, r1, r2, g0, g1, g2⟩ := id R1
  clear hD R0
  go_wp2_with fail
  exact bodyPost_ret (v := .tuple #[.agg #[.bool zs, .slice a1 n1 c1, .int .i64 ze], .int .i64 r]) (by simp [results, Tryz.results106, go_sem, r0, r1, r2, g0, g1, g2]) rfl ⟨a1, n1, c1, rfl, Num.fill R1 N1 .., by (repeat' (first | exact Below.refl _ _ | assumption | (refine below_alloc ?_ _) | (refine Below.setCell ?_ ?_ _) | (refine Below.drew ?_) | (refine below_drewN ?_ _))) <;> (first | (simp; done) | (simp; omega) | omega)⟩

set_option maxHeartbeats 4000000 in
set_option maxRecDepth 20000 in
theorem dAdd_ok (s s' : Bool) (e e' : Int) (R : Dy) (r : Int) (hT : Tab w) (h1 : Num w a n c l) (h2 : Num w b m d k) (hl : l.length + k.length ≤ 1000) (hm : mayE e) (hm' : mayE e') (hnear : farD (nrm ⟨s, valL l, e⟩) (nrm ⟨s', valL k, e'⟩) ∨ nearD (nrm ⟨s, valL l, e⟩) (nrm ⟨s', valL k, e'⟩)) (hO : addO ⟨s, valL l, e⟩ ⟨s', valL k, e'⟩ = (R, r)) :
    Calls Tryz.prog 38 #[.agg #[.bool s, .slice a n c, .int .i64 e], .agg #[.bool s', .slice b m d, .int .i64 e']] w fun x w' => ∃ a' n' c', x = .returned (.tuple #[.agg #[.bool R.s, .slice a' n' c', .int .i64 R.e], .int .i64 r]) ∧ Num w' a' n' c' (limbs R.m) ∧ Below w.heap.size w w' := by
  obtain ⟨X0, Y0, R0⟩ := three_boxes w s s' a b n c m d e e' 24
  unfold addO at hO
  rw [if_pos ⟨hm, hm'⟩] at hO
  have hP := fun g w' (hb : Below w.heap.size w w') (hp) (hp') (hx) (hx') (hg) (hg') => dopen2 (w.heap.size) g w.heap.size (w.heap.size + 1) s s' a b n c m d l k e e' w' (Nat.le_refl _) (Nat.le_succ _) hb.size hg hg' (by omega) (by omega) hp hp' hx hx' (h1.below hb) (h2.below hb) (fun w'' hb' => hT.below (hb.trans hb')) (by omega) (by omega) hm hm'
  have hb0 := nrm_e_may (s := s) h1.limbs (by omega) hm
  have hb0' := nrm_e_may (s := s') h2.limbs (by omega) hm'
  have hb1 := nrm_len (s := s) (e := e) h1.limbs
  have hb1' := nrm_len (s := s') (e := e') h2.limbs
  obtain ⟨X, hX⟩ : ∃ X, nrm ⟨s, valL l, e⟩ = X := ⟨_, rfl⟩
  obtain ⟨Y, hY⟩ : ∃ Y, nrm ⟨s', valL k, e'⟩ = Y := ⟨_, rfl⟩
  simp only [hX, hY] at hP hb0 hb0' hb1 hb1' hO hnear
  obtain ⟨xs, xm, xe⟩ := X
  obtain ⟨ys, ym, ye⟩ := Y
  simp only at hP hb0 hb0' hb1 hb1'
  have hl1 : (limbs xm).length ≤ 1000 := by omega
  have hl2 : (limbs ym).length ≤ 1000 := by omega
  have hHT := hT
  by_cases hf : farD ⟨xs, xm, xe⟩ ⟨ys, ym, ye⟩
  · rw [if_pos hf] at hO
    obtain ⟨rfl, rfl⟩ : zeroD = R ∧ 3 = r := ⟨congrArg Prod.fst hO, congrArg Prod.snd hO⟩
    have HF := Lib.hid hf
    clear hX hY hO hT hm hm' h1 h2 hb1 hb1' hl hnear hf
    · go_enter Tryz.func38, Tryz.ntmps38
      go_wp2_with fail
      refine (hP _ _ (by repeat' (first | exact Below.refl _ _ | refine below_alloc ?_ _)) (by simp [go_sem]) (by simp [go_sem]) (X0.alloc _) (Y0.alloc _) (by omega) (by omega)).mono ?_
      rintro x w1 ⟨a1, n1, c1, a2, n2, c2, rfl, X1, N1, Y1, N2, hB1, A1⟩
      have R1 := (R0.alloc _).apart A1 (by omega) (by omega)
      have hB2 : Below w.heap.size w w1 := Below.trans (by repeat' (first | exact Below.refl _ _ | refine below_alloc ?_ _)) hB1
      have HN1 := Lib.hid N1
      have HN2 := Lib.hid N2
      clear hP X0 Y0 R0 A1 hB1 N1 N2
      obtain ⟨x0, x1, x2, _, _, _⟩ := id X1
      obtain ⟨y0, y1, y2, _, _, _⟩ := id Y1
      go_wp2_with fail
      refine (level_far xs ys xe ye xm ym HN1.out HN2.out HF.out (by omega) (by omega) (by omega) (by omega)).mono ?_
      rintro x w2 ⟨rfl, hb2⟩
      have R2 := R1.below hb2
      have hB3 := below_step hB2 hb2
      have R3 := R2.alloc (.cells #[.int .i64 0, .slice none 0 0, .slice none 0 0] 114)
      obtain ⟨r0, r1, r2, g0, g1, g2⟩ := id R3
      clear hb2 X1 Y1 R1 HN1 HN2 hB2 x0 x1 x2 y0 y1 y2
      go_wp2_with fail
      exact bodyPost_ret (v := .tuple #[.agg #[.bool false, .slice none 0 0, .int .i64 0], .int .i64 3]) (by simp [results, Tryz.results38, go_sem, r0, r1, r2, g0, g1, g2]) rfl ⟨none, 0, 0, rfl, (by show Num _ _ _ _ (limbs 0); rw [limbs_zero]; exact Num.nil _), by (repeat' (first | exact Below.refl _ _ | assumption | (refine below_alloc ?_ _) | (refine Below.setCell ?_ ?_ _) | (refine Below.drew ?_) | (refine below_drewN ?_ _))) <;> (first | (simp; done) | (simp; omega) | omega)⟩
  · rw [if_neg hf] at hO
    have hnr : nearD ⟨xs, xm, xe⟩ ⟨ys, ym, ye⟩ := hnear.resolve_left hf
    obtain ⟨E, hE⟩ : ∃ E, lowE ⟨xs, xm, xe⟩ ⟨ys, ym, ye⟩ = E := ⟨_, rfl⟩
    obtain ⟨p, hp⟩ : ∃ p, (xe - E).toNat = p := ⟨_, rfl⟩
    obtain ⟨q, hq⟩ : ∃ q, (ye - E).toNat = q := ⟨_, rfl⟩
    obtain ⟨X', hX'⟩ : ∃ X', xm * 2 ^ p = X' := ⟨_, rfl⟩
    obtain ⟨Y', hY'⟩ : ∃ Y', ym * 2 ^ q = Y' := ⟨_, rfl⟩
    have hlx := lowE_x ⟨xs, xm, xe⟩ ⟨ys, ym, ye⟩
    have hly := lowE_y ⟨xs, xm, xe⟩ ⟨ys, ym, ye⟩
    rw [hE] at hlx hly
    have b01 : -1000000 ≤ E ∧ E ≤ 1000000 := by rw [← hE]; unfold lowE; (repeat' split) <;> (try simp only) <;> omega
    have b0 : -1000000000 ≤ E := by omega
    have b1 : E ≤ 1000000000 := by omega
    have hlX : (limbs X').length ≤ 1188 := by
      by_cases h0 : xm = 0
      · rw [← hX', h0, Nat.zero_mul, limbs_zero]; simp
      · refine pow_len hX'.symm hl1 ?_
        rcases hnr with h | h | h
        · exact absurd h h0
        · have : E = xe := by rw [← hE]; unfold lowE; rw [if_neg (by exact h0), if_pos h]
          omega
        · by_cases h0' : ym = 0
          · have : E = xe := by rw [← hE]; unfold lowE; rw [if_neg (by exact h0), if_pos (by exact h0')]
            omega
          · have : E = min xe ye := by rw [← hE]; unfold lowE; rw [if_neg (by exact h0), if_neg (by exact h0')]
            simp only at h
            omega
    have hlY : (limbs Y').length ≤ 1188 := by
      by_cases h0 : ym = 0
      · rw [← hY', h0, Nat.zero_mul, limbs_zero]; simp
      · refine pow_len hY'.symm hl2 ?_
        rcases hnr with h | h | h
        · have : E = ye := by rw [← hE]; unfold lowE; rw [if_pos h]
          omega
        · exact absurd h h0
        · by_cases h0' : xm = 0
          · have : E = ye := by rw [← hE]; unfold lowE; rw [if_pos (by exact h0')]
            omega
          · have : E = min xe ye := by rw [← hE]; unfold lowE; rw [if_neg (by exact h0'), if_neg (by exact h0)]
            simp only at h
            omega
    have hadd : addD ⟨xs, xm, xe⟩ ⟨ys, ym, ye⟩ = (if xs = ys then ⟨xs, X' + Y', E⟩ else if X' < Y' then ⟨ys, Y' - X', E⟩ else ⟨xs, X' - Y', E⟩) := by
      unfold addD atE
      simp only [hE, hp, hq, hX', hY']
    rw [hadd] at hO
    have HE2 : Hid ((xm ≠ 0 → xe - E = (p : Int)) ∧ (ym ≠ 0 → ye - E = (q : Int))) := Lib.hid (⟨fun h => by have := hlx.resolve_left h; simp only at this; omega, fun h => by have := hly.resolve_left h; simp only at this; omega⟩)
    have HE := Lib.hid hE
    have HF := Lib.hid hf
    have HXY := Lib.hid (And.intro hX' hY')
    clear hX hY hm hm' h1 h2 hb1 hb1' hl hnear hf hnr hE hp hq hX' hY' hlx hly hadd hHT b01
    by_cases hs : xs = ys
    · rw [if_pos hs] at hO
      subst hs
      have hlen : (limbs (X' + Y')).length ≤ 4000 := by
        have := len_add (limbs_limbs X') (limbs_limbs Y')
        rw [valL_limbs, valL_limbs] at this
        omega
      go_enter Tryz.func38, Tryz.ntmps38
      go_wp2_with fail
      refine (hP _ _ (by repeat' (first | exact Below.refl _ _ | refine below_alloc ?_ _)) (by simp [go_sem]) (by simp [go_sem]) (X0.alloc _) (Y0.alloc _) (by omega) (by omega)).mono ?_
      rintro x w1 ⟨a1, n1, c1, a2, n2, c2, rfl, X1, N1, Y1, N2, hB1, A1⟩
      have R1 := (R0.alloc _).apart A1 (by omega) (by omega)
      have hB2 : Below w.heap.size w w1 := Below.trans (by repeat' (first | exact Below.refl _ _ | refine below_alloc ?_ _)) hB1
      have HN1 := Lib.hid N1
      have HN2 := Lib.hid N2
      clear hP X0 Y0 R0 A1 hB1 N1 N2
      obtain ⟨x0, x1, x2, _, _, _⟩ := id X1
      obtain ⟨y0, y1, y2, _, _, _⟩ := id Y1
      go_wp2_with fail
      refine (level_near xs xs xe ye E xm ym p q X' Y' HN1.out HN2.out (Nat.le_trans hl1 (by omega)) (Nat.le_trans hl2 (by omega)) HE.out HF.out (fun h => HE2.out.1 (fun h0 => h (List.length_eq_zero_iff.1 (limbs_nil.2 h0)))) (fun h => HE2.out.2 (fun h0 => h (List.length_eq_zero_iff.1 (limbs_nil.2 h0)))) HXY.out.1 HXY.out.2 (by omega) (by omega) (by omega) (by omega) (by omega) (by omega)).mono ?_
      rintro x w2 ⟨a3, n3, c3, a4, n4, c4, rfl, N3, N4, hb2⟩
      have X2 := X1.below hb2
      have Y2 := Y1.below hb2
      have R2 := R1.below hb2
      have hB3 := below_step hB2 hb2
      have HN3 := Lib.hid N3
      have HN4 := Lib.hid N4
      clear hb2 X1 Y1 R1 HN1 HN2 hB2 N3 N4 x0 x1 x2 y0 y1 y2
      have X3 := X2.alloc (.cells #[.int .i64 E, .slice a3 n3 c3, .slice a4 n4 c4] 114)
      have Y3 := Y2.alloc (.cells #[.int .i64 E, .slice a3 n3 c3, .slice a4 n4 c4] 114)
      have R3 := R2.alloc (.cells #[.int .i64 E, .slice a3 n3 c3, .slice a4 n4 c4] 114)
      have P3 := BoxedP.new w2 E a3 n3 c3 a4 n4 c4 114 (g := w2.heap.size) rfl
      obtain ⟨x0, x1, x2, _, _, _⟩ := id X3
      obtain ⟨y0, y1, y2, _, _, _⟩ := id Y3
      go_wp2_with fail
      refine (add_n (X' + Y') (HN3.out.below (by repeat' (first | exact Below.refl _ _ | refine below_alloc ?_ _))) (HN4.out.below (by repeat' (first | exact Below.refl _ _ | refine below_alloc ?_ _))) (by rw [valL_limbs, valL_limbs]) (by omega)).mono ?_
      rintro x w4 ⟨a5, n5, c5, rfl, N5, hb4⟩
      have X4 := X3.below hb4
      have Y4 := Y3.below hb4
      have R4 := R3.below hb4
      have P4 := P3.below hb4
      have hB4 := below_step (w0 := w) (by (repeat' (first | exact Below.refl _ _ | assumption | (refine below_alloc ?_ _) | (refine Below.setCell ?_ ?_ _) | (refine Below.drew ?_) | (refine below_drewN ?_ _))) <;> (first | (simp; done) | (simp; omega) | omega)) hb4
      clear hb4 X3 Y3 R3 P3 x0 x1 x2 y0 y1 y2
      obtain ⟨x0, x1, x2, _, _, _⟩ := id X4
      obtain ⟨y0, y1, y2, _, _, _⟩ := id Y4
      go_wp2_with fail
      refine (answer_any xs (X' + Y') E w2.heap.size R r (hT.below hB4) P4.c0 N5 hlen b0 b1 hO).mono ?_
      rintro x w5 ⟨a6, n6, c6, rfl, N6, hb5⟩
      have R5 := R4.below hb5
      have hB5 := below_step hB4 hb5
      obtain ⟨r0, r1, r2, g0, g1, g2⟩ := id R5
      clear hb5 X4 Y4 R4 P4 x0 x1 x2 y0 y1 y2 hO
      go_wp2_with fail
      exact bodyPost_ret (v := .tuple #[.agg #[.bool R.s, .slice a6 n6 c6, .int .i64 R.e], .int .i64 r]) (by simp [results, Tryz.results38, go_sem, r0, r1, r2, g0, g1, g2]) rfl ⟨a6, n6, c6, rfl, Num.fill R5 N6 .., by (repeat' (first | exact Below.refl _ _ | assumption | (refine below_alloc ?_ _) | (refine Below.setCell ?_ ?_ _) | (refine Below.drew ?_) | (refine below_drewN ?_ _))) <;> (first | (simp; done) | (simp; omega) | omega)⟩
    · rw [if_neg hs] at hO
      have hsb : (xs == ys) = false := by cases xs <;> cases ys <;> first | rfl | exact absurd rfl hs
      clear hs
      by_cases hc : X' < Y'
      · rw [if_pos hc] at hO
        have HC := Lib.hid hc
        have hlen : (limbs (Y' - X')).length ≤ 4000 := Nat.le_trans (length_mono (Nat.sub_le _ _)) (by omega)
        clear hc
        · go_enter Tryz.func38, Tryz.ntmps38
          go_wp2_with fail
          refine (hP _ _ (by repeat' (first | exact Below.refl _ _ | refine below_alloc ?_ _)) (by simp [go_sem]) (by simp [go_sem]) (X0.alloc _) (Y0.alloc _) (by omega) (by omega)).mono ?_
          rintro x w1 ⟨a1, n1, c1, a2, n2, c2, rfl, X1, N1, Y1, N2, hB1, A1⟩
          have R1 := (R0.alloc _).apart A1 (by omega) (by omega)
          have hB2 : Below w.heap.size w w1 := Below.trans (by repeat' (first | exact Below.refl _ _ | refine below_alloc ?_ _)) hB1
          have HN1 := Lib.hid N1
          have HN2 := Lib.hid N2
          clear hP X0 Y0 R0 A1 hB1 N1 N2
          obtain ⟨x0, x1, x2, _, _, _⟩ := id X1
          obtain ⟨y0, y1, y2, _, _, _⟩ := id Y1
          go_wp2_with fail
          refine (level_near xs ys xe ye E xm ym p q X' Y' HN1.out HN2.out (Nat.le_trans hl1 (by omega)) (Nat.le_trans hl2 (by omega)) HE.out HF.out (fun h => HE2.out.1 (fun h0 => h (List.length_eq_zero_iff.1 (limbs_nil.2 h0)))) (fun h => HE2.out.2 (fun h0 => h (List.length_eq_zero_iff.1 (limbs_nil.2 h0)))) HXY.out.1 HXY.out.2 (by omega) (by omega) (by omega) (by omega) (by omega) (by omega)).mono ?_
          rintro x w2 ⟨a3, n3, c3, a4, n4, c4, rfl, N3, N4, hb2⟩
          have X2 := X1.below hb2
          have Y2 := Y1.below hb2
          have R2 := R1.below hb2
          have hB3 := below_step hB2 hb2
          have HN3 := Lib.hid N3
          have HN4 := Lib.hid N4
          clear hb2 X1 Y1 R1 HN1 HN2 hB2 N3 N4 x0 x1 x2 y0 y1 y2
          have X3 := X2.alloc (.cells #[.int .i64 E, .slice a3 n3 c3, .slice a4 n4 c4] 114)
          have Y3 := Y2.alloc (.cells #[.int .i64 E, .slice a3 n3 c3, .slice a4 n4 c4] 114)
          have R3 := R2.alloc (.cells #[.int .i64 E, .slice a3 n3 c3, .slice a4 n4 c4] 114)
          have P3 := BoxedP.new w2 E a3 n3 c3 a4 n4 c4 114 (g := w2.heap.size) rfl
          obtain ⟨x0, x1, x2, _, _, _⟩ := id X3
          obtain ⟨y0, y1, y2, _, _, _⟩ := id Y3
          go_wp2_with fail
          refine (cmp_n (HN3.out.below (by repeat' (first | exact Below.refl _ _ | refine below_alloc ?_ _))) (HN4.out.below (by repeat' (first | exact Below.refl _ _ | refine below_alloc ?_ _))) (by omega)).mono ?_
          rw [valL_limbs, valL_limbs, cmp_lt HC.out]
          rintro x w3 ⟨rfl, hb3⟩
          have HN5 := Lib.hid ((HN3.out.below (by repeat' (first | exact Below.refl _ _ | refine below_alloc ?_ _))).below hb3)
          have HN6 := Lib.hid ((HN4.out.below (by repeat' (first | exact Below.refl _ _ | refine below_alloc ?_ _))).below hb3)
          have X3' := X3.below hb3
          have Y3' := Y3.below hb3
          have R3' := R3.below hb3
          have P3' := P3.below hb3
          have hB3' := below_step (w0 := w) (by (repeat' (first | exact Below.refl _ _ | assumption | (refine below_alloc ?_ _) | (refine Below.setCell ?_ ?_ _) | (refine Below.drew ?_) | (refine below_drewN ?_ _))) <;> (first | (simp; done) | (simp; omega) | omega)) hb3
          clear hb3 X3 Y3 R3 P3 HN3 HN4 X2 Y2 R2 x0 x1 x2 y0 y1 y2
          obtain ⟨x0, x1, x2, _, _, _⟩ := id X3'
          obtain ⟨y0, y1, y2, _, _, _⟩ := id Y3'
          obtain ⟨p0, p1, p2, _, _, _⟩ := id P3'
          go_wp2_with fail
          refine (sub_n (Y' - X') HN6.out HN5.out (by rw [valL_limbs, valL_limbs]; have := HC.out; omega) (by omega)).mono ?_
          rintro x w4 ⟨a5, n5, c5, rfl, N5, hb4⟩
          have X4 := X3'.below hb4
          have Y4 := Y3'.below hb4
          have R4 := R3'.below hb4
          have P4 := P3'.below hb4
          have hB4 := below_step (w0 := w) (by (repeat' (first | exact Below.refl _ _ | assumption | (refine below_alloc ?_ _) | (refine Below.setCell ?_ ?_ _) | (refine Below.drew ?_) | (refine below_drewN ?_ _))) <;> (first | (simp; done) | (simp; omega) | omega)) hb4
          clear hb4 X3' Y3' R3' P3' x0 x1 x2 y0 y1 y2
          obtain ⟨x0, x1, x2, _, _, _⟩ := id X4
          obtain ⟨y0, y1, y2, _, _, _⟩ := id Y4
          go_wp2_with fail
          refine (answer_any ys (Y' - X') E w2.heap.size R r (hT.below hB4) P4.c0 N5 hlen b0 b1 hO).mono ?_
          rintro x w5 ⟨a6, n6, c6, rfl, N6, hb5⟩
          have R5 := R4.below hb5
          have hB5 := below_step hB4 hb5
          obtain ⟨r0, r1, r2, g0, g1, g2⟩ := id R5
          clear hb5 X4 Y4 R4 P4 x0 x1 x2 y0 y1 y2 hO
          go_wp2_with fail
          exact bodyPost_ret (v := .tuple #[.agg #[.bool R.s, .slice a6 n6 c6, .int .i64 R.e], .int .i64 r]) (by simp [results, Tryz.results38, go_sem, r0, r1, r2, g0, g1, g2]) rfl ⟨a6, n6, c6, rfl, Num.fill R5 N6 .., by (repeat' (first | exact Below.refl _ _ | assumption | (refine below_alloc ?_ _) | (refine Below.setCell ?_ ?_ _) | (refine Below.drew ?_) | (refine below_drewN ?_ _))) <;> (first | (simp; done) | (simp; omega) | omega)⟩
      · rw [if_neg hc] at hO
        have HC := Lib.hid hc
        have hlen : (limbs (X' - Y')).length ≤ 4000 := Nat.le_trans (length_mono (Nat.sub_le _ _)) (by omega)
        obtain ⟨z, hz, hz0⟩ : ∃ z, cmpN X' Y' = z ∧ (0 : Int) ≤ z := ⟨_, rfl, by rcases cmp_ge hc with h | h <;> omega⟩
        have HZ := Lib.hid hz
        clear hc hz
        · go_enter Tryz.func38, Tryz.ntmps38
          go_wp2_with fail
          refine (hP _ _ (by repeat' (first | exact Below.refl _ _ | refine below_alloc ?_ _)) (by simp [go_sem]) (by simp [go_sem]) (X0.alloc _) (Y0.alloc _) (by omega) (by omega)).mono ?_
          rintro x w1 ⟨a1, n1, c1, a2, n2, c2, rfl, X1, N1, Y1, N2, hB1, A1⟩
          have R1 := (R0.alloc _).apart A1 (by omega) (by omega)
          have hB2 : Below w.heap.size w w1 := Below.trans (by repeat' (first | exact Below.refl _ _ | refine below_alloc ?_ _)) hB1
          have HN1 := Lib.hid N1
          have HN2 := Lib.hid N2
          clear hP X0 Y0 R0 A1 hB1 N1 N2
          obtain ⟨x0, x1, x2, _, _, _⟩ := id X1
          obtain ⟨y0, y1, y2, _, _, _⟩ := id Y1
          go_wp2_with fail
          refine (level_near xs ys xe ye E xm ym p q X' Y' HN1.out HN2.out (Nat.le_trans hl1 (by omega)) (Nat.le_trans hl2 (by omega)) HE.out HF.out (fun h => HE2.out.1 (fun h0 => h (List.length_eq_zero_iff.1 (limbs_nil.2 h0)))) (fun h => HE2.out.2 (fun h0 => h (List.length_eq_zero_iff.1 (limbs_nil.2 h0)))) HXY.out.1 HXY.out.2 (by omega) (by omega) (by omega) (by omega) (by omega) (by omega)).mono ?_
          rintro x w2 ⟨a3, n3, c3, a4, n4, c4, rfl, N3, N4, hb2⟩
          have X2 := X1.below hb2
          have Y2 := Y1.below hb2
          have R2 := R1.below hb2
          have hB3 := below_step hB2 hb2
          have HN3 := Lib.hid N3
          have HN4 := Lib.hid N4
          clear hb2 X1 Y1 R1 HN1 HN2 hB2 N3 N4 x0 x1 x2 y0 y1 y2
          have X3 := X2.alloc (.cells #[.int .i64 E, .slice a3 n3 c3, .slice a4 n4 c4] 114)
          have Y3 := Y2.alloc (.cells #[.int .i64 E, .slice a3 n3 c3, .slice a4 n4 c4] 114)
          have R3 := R2.alloc (.cells #[.int .i64 E, .slice a3 n3 c3, .slice a4 n4 c4] 114)
          have P3 := BoxedP.new w2 E a3 n3 c3 a4 n4 c4 114 (g := w2.heap.size) rfl
          obtain ⟨x0, x1, x2, _, _, _⟩ := id X3
          obtain ⟨y0, y1, y2, _, _, _⟩ := id Y3
          go_wp2_with fail
          refine (cmp_n (HN3.out.below (by repeat' (first | exact Below.refl _ _ | refine below_alloc ?_ _))) (HN4.out.below (by repeat' (first | exact Below.refl _ _ | refine below_alloc ?_ _))) (by omega)).mono ?_
          rw [valL_limbs, valL_limbs, HZ.out]
          rintro x w3 ⟨rfl, hb3⟩
          have HN5 := Lib.hid ((HN3.out.below (by repeat' (first | exact Below.refl _ _ | refine below_alloc ?_ _))).below hb3)
          have HN6 := Lib.hid ((HN4.out.below (by repeat' (first | exact Below.refl _ _ | refine below_alloc ?_ _))).below hb3)
          have X3' := X3.below hb3
          have Y3' := Y3.below hb3
          have R3' := R3.below hb3
          have P3' := P3.below hb3
          have hB3' := below_step (w0 := w) (by (repeat' (first | exact Below.refl _ _ | assumption | (refine below_alloc ?_ _) | (refine Below.setCell ?_ ?_ _) | (refine Below.drew ?_) | (refine below_drewN ?_ _))) <;> (first | (simp; done) | (simp; omega) | omega)) hb3
          clear hb3 X3 Y3 R3 P3 HN3 HN4 X2 Y2 R2 x0 x1 x2 y0 y1 y2
          obtain ⟨x0, x1, x2, _, _, _⟩ := id X3'
          obtain ⟨y0, y1, y2, _, _, _⟩ := id Y3'
          obtain ⟨p0, p1, p2, _, _, _⟩ := id P3'
          go_wp2_with fail
          refine (sub_n (X' - Y') HN5.out HN6.out (by rw [valL_limbs, valL_limbs]; have := HC.out; omega) (by omega)).mono ?_
          rintro x w4 ⟨a5, n5, c5, rfl, N5, hb4⟩
          have X4 := X3'.below hb4
          have Y4 := Y3'.below hb4
          have R4 := R3'.below hb4
          have P4 := P3'.below hb4
          have hB4 := below_step (w0 := w) (by (repeat' (first | exact Below.refl _ _ | assumption | (refine below_alloc ?_ _) | (refine Below.setCell ?_ ?_ _) | (refine Below.drew ?_) | (refine below_drewN ?_ _))) <;> (first | (simp; done) | (simp; omega) | omega)) hb4
          clear hb4 X3' Y3' R3' P3' x0 x1 x2 y0 y1 y2
          obtain ⟨x0, x1, x2, _, _, _⟩ := id X4
          obtain ⟨y0, y1, y2, _, _, _⟩ := id Y4
          go_wp2_with fail
          refine (answer_any xs (X' - Y') E w2.heap.size R r (hT.below hB4) P4.c0 N5 hlen b0 b1 hO).mono ?_
          rintro x w5 ⟨a6, n6, c6, rfl, N6, hb5⟩
          have R5 := R4.below hb5
          have hB5 := below_step hB4 hb5
          obtain ⟨r0, r1, r2, g0, g1, g2⟩ := id R5
          clear hb5 X4 Y4 R4 P4 x0 x1 x2 y0 y1 y2 hO
          go_wp2_with fail
          exact bodyPost_ret (v := .tuple #[.agg #[.bool R.s, .slice a6 n6 c6, .int .i64 R.e], .int .i64 r]) (by simp [results, Tryz.results38, go_sem, r0, r1, r2, g0, g1, g2]) rfl ⟨a6, n6, c6, rfl, Num.fill R5 N6 .., by (repeat' (first | exact Below.refl _ _ | assumption | (refine below_alloc ?_ _) | (refine Below.setCell ?_ ?_ _) | (refine Below.drew ?_) | (refine below_drewN ?_ _))) <;> (first | (simp; done) | (simp; omega) | omega)⟩
end
end Go.Proofs.YtjlaadadbpffdaaGreatDoor
