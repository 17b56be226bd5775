/-
  dyad.Cmp of two numbers that are near or far.
-/
import Derived.Test.YtjlaadadbpffdaaGreatDoorDyH
set_option linter.unusedSimpArgs false
set_option linter.unusedVariables false
namespace Go.Proofs.YtjlaadadbpffdaaGreatDoor
open Go.RowKit Go.Plumb

section
variable {w : World} {a b : Option Addr} {n c m d : Nat} {l k : List Nat}
set_option maxHeartbeats 4000000 in
set_option maxRecDepth 20000 in
theorem dCmp_ok (s s' : Bool) (e e' z r : Int) (hT : Tab w) (h1 : Num w a n c l) (h2 : Num w b m d k) (hl : l.length + k.length ≤ 1000) (hm : mayE e) (hm' : mayE e') (hnear : farD (nrm ⟨s, valL l, e⟩) (nrm ⟨s', valL k, e'⟩) ∨ nearD (nrm ⟨s, valL l, e⟩) (nrm ⟨s', valL k, e'⟩)) (hO : cmpO ⟨s, valL l, e⟩ ⟨s', valL k, e'⟩ = (z, r)) :
    Calls Tryz.prog 46 #[.agg #[.bool s, .slice a n c, .int .i64 e], .agg #[.bool s', .slice b m d, .int .i64 e']] w fun x w' => x = .returned (.tuple #[.int .i64 z, .int .i64 r]) ∧ Below w.heap.size w w' := by
  have X0 := (Boxed3.new w s a n c e 24 rfl).alloc (.cells #[.bool s', .slice b m d, .int .i64 e'] 24)
  have Y0 := Boxed3.new (w.alloc (.cells #[.bool s, .slice a n c, .int .i64 e] 24)) s' b m d e' 24 (g := w.heap.size + 1) (by simp)
  unfold cmpO at hO
  rw [if_pos ⟨hm, hm'⟩] at hO
  have hP := fun g w' (hb : Below w.heap.size w w') (hp) (hp') (hx) (hx') (hg) (hg') => dopen2 (w.heap.size) g w.heap.size (w.heap.size + 1) s s' a b n c m d l k e e' w' (Nat.le_refl _) (Nat.le_succ _) hb.size hg hg' (by omega) (by omega) hp hp' hx hx' (h1.below hb) (h2.below hb) (fun w'' hb' => hT.below (hb.trans hb')) (by omega) (by omega) hm hm'
  have hb0 := nrm_e_may (s := s) h1.limbs (by omega) hm
  have hb0' := nrm_e_may (s := s') h2.limbs (by omega) hm'
  have hb1 := nrm_len (s := s) (e := e) h1.limbs
  have hb1' := nrm_len (s := s') (e := e') h2.limbs
  obtain ⟨X, hX⟩ : ∃ X, nrm ⟨s, valL l, e⟩ = X := ⟨_, rfl⟩
  obtain ⟨Y, hY⟩ : ∃ Y, nrm ⟨s', valL k, e'⟩ = Y := ⟨_, rfl⟩
  simp only [hX, hY] at hP hb0 hb0' hb1 hb1' hO hnear
  obtain ⟨xs, xm, xe⟩ := X
  obtain ⟨ys, ym, ye⟩ := Y
  simp only at hP hb0 hb0' hb1 hb1'
  have hl1 : (limbs xm).length ≤ 1000 := by omega
  have hl2 : (limbs ym).length ≤ 1000 := by omega
  have hHT := hT
  by_cases hf : farD ⟨xs, xm, xe⟩ ⟨ys, ym, ye⟩
  · rw [if_pos hf] at hO
    obtain ⟨rfl, rfl⟩ : (0 : Int) = z ∧ 3 = r := ⟨congrArg Prod.fst hO, congrArg Prod.snd hO⟩
    have HF := Lib.hid hf
    clear hX hY hO hT hm hm' h1 h2 hb1 hb1' hl hnear hf
    · go_enter Tryz.func46, Tryz.ntmps46
      go_wp2_with fail
      refine (hP _ _ (by repeat' (first | exact Below.refl _ _ | refine below_alloc ?_ _)) (by simp [go_sem]) (by simp [go_sem]) (X0.alloc _) (Y0.alloc _) (by omega) (by omega)).mono ?_
      rintro x w1 ⟨a1, n1, c1, a2, n2, c2, rfl, X1, N1, Y1, N2, hB1, A1⟩
      have hB2 : Below w.heap.size w w1 := Below.trans (by repeat' (first | exact Below.refl _ _ | refine below_alloc ?_ _)) hB1
      have HN1 := Lib.hid N1
      have HN2 := Lib.hid N2
      clear hP X0 Y0 A1 hB1 N1 N2
      obtain ⟨x0, x1, x2, _, _, _⟩ := id X1
      obtain ⟨y0, y1, y2, _, _, _⟩ := id Y1
      go_wp2_with fail
      refine (level_far xs ys xe ye xm ym HN1.out HN2.out HF.out (by omega) (by omega) (by omega) (by omega)).mono ?_
      rintro x w2 ⟨rfl, hb2⟩
      have hB3 := below_step hB2 hb2
      clear hb2 X1 Y1 HN1 HN2 hB2 x0 x1 x2 y0 y1 y2
      go_wp2_with fail
      go_ret2
      exact ⟨rfl, by (repeat' (first | exact Below.refl _ _ | assumption | (refine below_alloc ?_ _) | (refine Below.setCell ?_ ?_ _) | (refine Below.drew ?_) | (refine below_drewN ?_ _))) <;> (first | (simp; done) | (simp; omega) | omega)⟩
  · rw [if_neg hf] at hO
    obtain ⟨hz, rfl⟩ : cmpD ⟨xs, xm, xe⟩ ⟨ys, ym, ye⟩ = z ∧ 0 = r := ⟨congrArg Prod.fst hO, congrArg Prod.snd hO⟩
    have hnr : nearD ⟨xs, xm, xe⟩ ⟨ys, ym, ye⟩ := hnear.resolve_left hf
    obtain ⟨E, hE⟩ : ∃ E, lowE ⟨xs, xm, xe⟩ ⟨ys, ym, ye⟩ = E := ⟨_, rfl⟩
    obtain ⟨p, hp⟩ : ∃ p, (xe - E).toNat = p := ⟨_, rfl⟩
    obtain ⟨q, hq⟩ : ∃ q, (ye - E).toNat = q := ⟨_, rfl⟩
    obtain ⟨X', hX'⟩ : ∃ X', xm * 2 ^ p = X' := ⟨_, rfl⟩
    obtain ⟨Y', hY'⟩ : ∃ Y', ym * 2 ^ q = Y' := ⟨_, rfl⟩
    have hlx := lowE_x ⟨xs, xm, xe⟩ ⟨ys, ym, ye⟩
    have hly := lowE_y ⟨xs, xm, xe⟩ ⟨ys, ym, ye⟩
    rw [hE] at hlx hly
    have b01 : -1000000 ≤ E ∧ E ≤ 1000000 := by rw [← hE]; unfold lowE; (repeat' split) <;> (try simp only) <;> omega
    have b0 : -1000000000 ≤ E := by omega
    have b1 : E ≤ 1000000000 := by omega
    have hlX : (limbs X').length ≤ 1188 := by
      by_cases h0 : xm = 0
      · rw [← hX', h0, Nat.zero_mul, limbs_zero]; simp
      · refine pow_len hX'.symm hl1 ?_
        rcases hnr with h | h | h
        · exact absurd h h0
        · have : E = xe := by rw [← hE]; unfold lowE; rw [if_neg (by exact h0), if_pos h]
          omega
        · by_cases h0' : ym = 0
          · have : E = xe := by rw [← hE]; unfold lowE; rw [if_neg (by exact h0), if_pos (by exact h0')]
            omega
          · have : E = min xe ye := by rw [← hE]; unfold lowE; rw [if_neg (by exact h0), if_neg (by exact h0')]
            simp only at h
            omega
    have hlY : (limbs Y').length ≤ 1188 := by
      by_cases h0 : ym = 0
      · rw [← hY', h0, Nat.zero_mul, limbs_zero]; simp
      · refine pow_len hY'.symm hl2 ?_
        rcases hnr with h | h | h
        · have : E = ye := by rw [← hE]; unfold lowE; rw [if_pos h]
          omega
        · exact absurd h h0
        · by_cases h0' : xm = 0
          · have : E = ye := by rw [← hE]; unfold lowE; rw [if_pos (by exact h0')]
            omega
          · have : E = min xe ye := by rw [← hE]; unfold lowE; rw [if_neg (by exact h0'), if_neg (by exact h0)]
            simp only at h
            omega
    have hcd : z = (if sideD ⟨xs, xm, xe⟩ = sideD ⟨ys, ym, ye⟩ then (if xs then -cmpN X' Y' else cmpN X' Y') else if sideD ⟨xs, xm, xe⟩ < sideD ⟨ys, ym, ye⟩ then -1 else 1) := by
      rw [← hz]
      unfold cmpD atE
      simp only [hE, hp, hq, hX', hY']
    have HE2 : Hid ((xm ≠ 0 → xe - E = (p : Int)) ∧ (ym ≠ 0 → ye - E = (q : Int))) := Lib.hid (⟨fun h => by have := hlx.resolve_left h; simp only at this; omega, fun h => by have := hly.resolve_left h; simp only at this; omega⟩)
    have HE := Lib.hid hE
    have HF := Lib.hid hf
    have HXY := Lib.hid (And.intro hX' hY')
    have hS1 : ∀ w a1 n1 c1, Num w a1 n1 c1 (limbs xm) → Calls Tryz.prog 116 #[.agg #[.bool xs, .slice a1 n1 c1, .int .i64 xe]] w fun x w' => x = .returned (.int .i64 (sideD ⟨xs, xm, xe⟩)) ∧ Below w.heap.size w w' := by
      intro w a1 n1 c1 h
      have := side_any (w := w) (a := a1) (n := n1) (c := c1) xs xe (by have := h.1; omega)
      have e : sideD ⟨xs, xm, xe⟩ = (if n1 = 0 then 0 else if xs then -1 else 1) := by rw [h.1]; unfold sideD; simp only [limbs_nil]
      rw [e]; exact this
    have hS2 : ∀ w a1 n1 c1, Num w a1 n1 c1 (limbs ym) → Calls Tryz.prog 116 #[.agg #[.bool ys, .slice a1 n1 c1, .int .i64 ye]] w fun x w' => x = .returned (.int .i64 (sideD ⟨ys, ym, ye⟩)) ∧ Below w.heap.size w w' := by
      intro w a1 n1 c1 h
      have := side_any (w := w) (a := a1) (n := n1) (c := c1) ys ye (by have := h.1; omega)
      have e : sideD ⟨ys, ym, ye⟩ = (if n1 = 0 then 0 else if ys then -1 else 1) := by rw [h.1]; unfold sideD; simp only [limbs_nil]
      rw [e]; exact this
    have hs1 : -1 ≤ sideD ⟨xs, xm, xe⟩ ∧ sideD ⟨xs, xm, xe⟩ ≤ 1 := by unfold sideD; (repeat' split) <;> omega
    have hs2 : -1 ≤ sideD ⟨ys, ym, ye⟩ ∧ sideD ⟨ys, ym, ye⟩ ≤ 1 := by unfold sideD; (repeat' split) <;> omega
    obtain ⟨S1, hS1e⟩ : ∃ S1, sideD ⟨xs, xm, xe⟩ = S1 := ⟨_, rfl⟩
    obtain ⟨S2, hS2e⟩ : ∃ S2, sideD ⟨ys, ym, ye⟩ = S2 := ⟨_, rfl⟩
    rw [hS1e] at hcd hs1
    rw [hS2e] at hcd hs2
    simp only [hS1e] at hS1
    simp only [hS2e] at hS2
    obtain ⟨C, hC⟩ : ∃ C, cmpN X' Y' = C := ⟨_, rfl⟩
    rw [hC] at hcd
    have HC := Lib.hid hC
    have hC0 : -1 ≤ C ∧ C ≤ 1 := by rw [← hC]; unfold cmpN; (repeat' split) <;> omega
    obtain ⟨s10, s11⟩ := hs1
    obtain ⟨s20, s21⟩ := hs2
    obtain ⟨c10, c11⟩ := hC0
    have HCD := Lib.hid hcd
    clear hX hY hm hm' h1 h2 hb1 hb1' hl hnear hf hnr hE hp hq hX' hY' hlx hly hHT b01 hz hS1e hS2e hC hcd hO hT
    · go_enter Tryz.func46, Tryz.ntmps46
      go_wp2_with fail
      refine (hP _ _ (by repeat' (first | exact Below.refl _ _ | refine below_alloc ?_ _)) (by simp [go_sem]) (by simp [go_sem]) (X0.alloc _) (Y0.alloc _) (by omega) (by omega)).mono ?_
      rintro x w1 ⟨a1, n1, c1, a2, n2, c2, rfl, X1, N1, Y1, N2, hB1, A1⟩
      have hB2 : Below w.heap.size w w1 := Below.trans (by repeat' (first | exact Below.refl _ _ | refine below_alloc ?_ _)) hB1
      have HN1 := Lib.hid N1
      have HN2 := Lib.hid N2
      clear hP X0 Y0 A1 hB1 N1 N2
      obtain ⟨x0, x1, x2, _, _, _⟩ := id X1
      obtain ⟨y0, y1, y2, _, _, _⟩ := id Y1
      go_wp2_with fail
      refine (level_near xs ys xe ye E xm ym p q X' Y' HN1.out HN2.out (Nat.le_trans hl1 (by omega)) (Nat.le_trans hl2 (by omega)) HE.out HF.out (fun h => HE2.out.1 (fun h0 => h (List.length_eq_zero_iff.1 (limbs_nil.2 h0)))) (fun h => HE2.out.2 (fun h0 => h (List.length_eq_zero_iff.1 (limbs_nil.2 h0)))) HXY.out.1 HXY.out.2 (by omega) (by omega) (by omega) (by omega) (by omega) (by omega)).mono ?_
      rintro x w2 ⟨a3, n3, c3, a4, n4, c4, rfl, N3, N4, hb2⟩
      have X2 := X1.below hb2
      have Y2 := Y1.below hb2
      have hB3 := below_step hB2 hb2
      have M1 := Lib.hid (HN1.out.below hb2)
      have M2 := Lib.hid (HN2.out.below hb2)
      have HN3 := Lib.hid N3
      have HN4 := Lib.hid N4
      clear hb2 X1 Y1 HN1 HN2 hB2 N3 N4 x0 x1 x2 y0 y1 y2
      have X3 := X2.alloc (.cells #[.int .i64 E, .slice a3 n3 c3, .slice a4 n4 c4] 114)
      have Y3 := Y2.alloc (.cells #[.int .i64 E, .slice a3 n3 c3, .slice a4 n4 c4] 114)
      have P3 := BoxedP.new w2 E a3 n3 c3 a4 n4 c4 114 (g := w2.heap.size) rfl
      obtain ⟨x0, x1, x2, _, _, _⟩ := id X3
      obtain ⟨y0, y1, y2, _, _, _⟩ := id Y3
      go_wp2_with fail
      refine (cmp_n (HN3.out.below (by repeat' (first | exact Below.refl _ _ | refine below_alloc ?_ _))) (HN4.out.below (by repeat' (first | exact Below.refl _ _ | refine below_alloc ?_ _))) (by omega)).mono ?_
      rw [valL_limbs, valL_limbs, HC.out]
      rintro x w3 ⟨rfl, hb3⟩
      have L1 := (M1.out.below (by repeat' (first | exact Below.refl _ _ | refine below_alloc ?_ _))).below hb3
      have L2 := (M2.out.below (by repeat' (first | exact Below.refl _ _ | refine below_alloc ?_ _))).below hb3
      have X4 := X3.below hb3
      have Y4 := Y3.below hb3
      have hB4 := below_step (w0 := w) (by (repeat' (first | exact Below.refl _ _ | assumption | (refine below_alloc ?_ _) | (refine Below.setCell ?_ ?_ _) | (refine Below.drew ?_) | (refine below_drewN ?_ _))) <;> (first | (simp; done) | (simp; omega) | omega)) hb3
      clear hb3 X3 Y3 P3 HN3 HN4 M1 M2 x0 x1 x2 y0 y1 y2 hB3 X2 Y2
      obtain ⟨x0, x1, x2, _, _, _⟩ := id X4
      obtain ⟨y0, y1, y2, _, _, _⟩ := id Y4
      have hSS : ∀ wx, Below w3.heap.size w3 wx → Below w3.heap.size w3 wx ∧ wx.cell? ⟨w.heap.size, 0, none⟩ = some (.bool xs) ∧ wx.cell? ⟨w.heap.size, 1, none⟩ = some (.slice a1 n1 c1) ∧ wx.cell? ⟨w.heap.size, 2, none⟩ = some (.int .i64 xe) ∧ wx.cell? ⟨w.heap.size + 1, 0, none⟩ = some (.bool ys) ∧ wx.cell? ⟨w.heap.size + 1, 1, none⟩ = some (.slice a2 n2 c2) ∧ wx.cell? ⟨w.heap.size + 1, 2, none⟩ = some (.int .i64 ye) :=
        fun wx h => ⟨h, (X4.below h).c0, (X4.below h).c1, (X4.below h).c2, (Y4.below h).c0, (Y4.below h).c1, (Y4.below h).c2⟩
      have hT1 := fun wx (h : Below w3.heap.size w3 wx) => hS1 wx _ _ _ (L1.below h)
      have hT2 := fun wx (h : Below w3.heap.size w3 wx) => hS2 wx _ _ _ (L2.below h)
      have HSS := Lib.hid hSS
      have HB0 := Below.refl w3.heap.size w3
      clear hS1 hS2 hSS X4 Y4 L1 L2
      go_wp2_with fail
      clear x0 x1 x2 y0 y1 y2
      by_cases hse : S1 = S2
      · have hne : (S1 != S2) = false := by simp [hse]
        have HSE := Lib.hid hse
        clear hse
        go_region_held3 (fun wx => Below w3.heap.size w3 wx ∧ wx.cell? ⟨w.heap.size, 0, none⟩ = some (.bool xs) ∧ wx.cell? ⟨w.heap.size, 1, none⟩ = some (.slice a1 n1 c1) ∧ wx.cell? ⟨w.heap.size, 2, none⟩ = some (.int .i64 xe) ∧ wx.cell? ⟨w.heap.size + 1, 0, none⟩ = some (.bool ys) ∧ wx.cell? ⟨w.heap.size + 1, 1, none⟩ = some (.slice a2 n2 c2) ∧ wx.cell? ⟨w.heap.size + 1, 2, none⟩ = some (.int .i64 ye))
          (first | exact HSS.out _ (by assumption) | exact HSS.out _ (Below.drew (by assumption)))
          ((go_at_call 116; (with_reducible first | refine (hT1 _ (by first | assumption | exact Below.drew (by assumption))).mono ?_ | refine (hT2 _ (by first | assumption | exact Below.drew (by assumption))).mono ?_); rintro e w4 ⟨rfl, hb⟩; have HB0 := below_step (w0 := w3) (by first | assumption | exact Below.drew (by assumption)) hb; clear hb))
        obtain ⟨x0, x1, x2, y0, y1, y2⟩ := (HSS.out _ HB0).2
        go_wp2_with fail
        all_goals go_ret2
        · exact ⟨by rw [HCD.out, if_pos HSE.out]; simp_all, below_step hB4 HB0⟩
        · exact ⟨by rw [HCD.out, if_pos HSE.out]; simp_all, below_step hB4 HB0⟩
      · have hne : (S1 != S2) = true := by simp [hse]
        have hwr : IntKind.i64.wrap (S1 - S2) = S1 - S2 := by
          have q1 : S1 = -1 ∨ S1 = 0 ∨ S1 = 1 := by omega
          have q2 : S2 = -1 ∨ S2 = 0 ∨ S2 = 1 := by omega
          rcases q1 with h | h | h <;> rcases q2 with h' | h' | h' <;> rw [h, h'] <;> rfl
        have HSE := Lib.hid hse
        clear hse
        go_region_held3 (fun wx => Below w3.heap.size w3 wx ∧ wx.cell? ⟨w.heap.size, 0, none⟩ = some (.bool xs) ∧ wx.cell? ⟨w.heap.size, 1, none⟩ = some (.slice a1 n1 c1) ∧ wx.cell? ⟨w.heap.size, 2, none⟩ = some (.int .i64 xe) ∧ wx.cell? ⟨w.heap.size + 1, 0, none⟩ = some (.bool ys) ∧ wx.cell? ⟨w.heap.size + 1, 1, none⟩ = some (.slice a2 n2 c2) ∧ wx.cell? ⟨w.heap.size + 1, 2, none⟩ = some (.int .i64 ye))
          (first | exact HSS.out _ (by assumption) | exact HSS.out _ (Below.drew (by assumption)))
          ((go_at_call 116; (with_reducible first | refine (hT1 _ (by first | assumption | exact Below.drew (by assumption))).mono ?_ | refine (hT2 _ (by first | assumption | exact Below.drew (by assumption))).mono ?_); rintro e w4 ⟨rfl, hb⟩; have HB0 := below_step (w0 := w3) (by first | assumption | exact Below.drew (by assumption)) hb; clear hb))
        obtain ⟨x0, x1, x2, y0, y1, y2⟩ := (HSS.out _ HB0).2
        go_wp2_with fail
        go_region_held3 (fun wx => Below w3.heap.size w3 wx ∧ wx.cell? ⟨w.heap.size, 0, none⟩ = some (.bool xs) ∧ wx.cell? ⟨w.heap.size, 1, none⟩ = some (.slice a1 n1 c1) ∧ wx.cell? ⟨w.heap.size, 2, none⟩ = some (.int .i64 xe) ∧ wx.cell? ⟨w.heap.size + 1, 0, none⟩ = some (.bool ys) ∧ wx.cell? ⟨w.heap.size + 1, 1, none⟩ = some (.slice a2 n2 c2) ∧ wx.cell? ⟨w.heap.size + 1, 2, none⟩ = some (.int .i64 ye))
          (first | exact HSS.out _ (by assumption) | exact HSS.out _ (Below.drew (by assumption)))
          ((go_at_call 116; (with_reducible first | refine (hT1 _ (by first | assumption | exact Below.drew (by assumption))).mono ?_ | refine (hT2 _ (by first | assumption | exact Below.drew (by assumption))).mono ?_); rintro e w4 ⟨rfl, hb⟩; have HB0 := below_step (w0 := w3) (by first | assumption | exact Below.drew (by assumption)) hb; clear hb))
        go_wp2_with fail
        all_goals go_ret2
        all_goals refine ⟨?_, below_step hB4 (by assumption)⟩
        all_goals have hzz : z = max (-1) (min 1 (S1 - S2)) := by have := HSE.out; rw [HCD.out, if_neg HSE.out]; split <;> omega
        all_goals rw [hzz]
        all_goals rfl
end
end Go.Proofs.YtjlaadadbpffdaaGreatDoor
