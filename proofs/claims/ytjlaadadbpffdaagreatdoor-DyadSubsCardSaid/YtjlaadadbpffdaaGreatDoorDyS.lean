/-
  The reference's Add of dyads.
-/
import Derived.Test.YtjlaadadbpffdaaGreatDoorDyR
set_option linter.unusedSimpArgs false
set_option linter.unusedVariables false
namespace Go.Plumb
theorem nrm_zero_e (d : Dy) (h : (nrm d).m = 0) : (nrm d).e = 0 := by
  by_cases h0 : d.m = 0
  · rw [nrm_zero h0]; rfl
  · rw [nrm_m] at h; exact absurd h (oddN_ne h0)
end Go.Plumb
namespace Go.Proofs.YtjlaadadbpffdaaGreatDoor
open Go.RowKit Go.Plumb
section
variable {w : World} {a b : Option Addr} {n c m d : Nat} {l k : List Nat}
set_option maxHeartbeats 8000000 in
set_option maxRecDepth 20000 in
theorem rAdd3_ok (s s' : Bool) (e e' : Int) (R : Dy) (r : Int) (h1 : Num w a n c l) (h2 : Num w b m d k) (hl : l.length + k.length ≤ 1000) (hm : mayE e) (hm' : mayE e') (hnear : farD (nrm ⟨s, valL l, e⟩) (nrm ⟨s', valL k, e'⟩) ∨ nearD (nrm ⟨s, valL l, e⟩) (nrm ⟨s', valL k, e'⟩)) (hO : addO ⟨s, valL l, e⟩ ⟨s', valL k, e'⟩ = (R, r)) :
    Calls Tryz.prog 39 #[.agg #[.bool s, .slice a n c, .int .i64 e], .agg #[.bool s', .slice b m d, .int .i64 e']] w fun x w' => ∃ a' n' c', x = .returned (.tuple #[.agg #[.bool R.s, .slice a' n' c', .int .i64 R.e], .int .i64 r]) ∧ Num w' a' n' c' (limbs R.m) ∧ Below w.heap.size w w' := by
  obtain ⟨X0, Y0, R0⟩ := three_boxes w s s' a b n c m d e e' 24
  unfold addO at hO
  rw [if_pos ⟨hm, hm'⟩] at hO
  have hM1 := fun w' (hb : Below w.heap.size w w') => rMay3_any s e (h1.below hb) (by omega)
  have hM2 := fun w' (hb : Below w.heap.size w w') => rMay3_any s' e' (h2.below hb) (by omega)
  simp only [decide_eq_true hm] at hM1
  simp only [decide_eq_true hm'] at hM2
  have hN1 := fun w' (hb : Below w.heap.size w w') => rNorm3_any s e (h1.below hb) (by omega) (by have := hm.1; omega) (by have := hm.2; omega)
  have hN2 := fun w' (hb : Below w.heap.size w w') => rNorm3_any s' e' (h2.below hb) (by omega) (by have := hm'.1; omega) (by have := hm'.2; omega)
  have hb0 := nrm_e_may (s := s) h1.limbs (by omega) hm
  have hb0' := nrm_e_may (s := s') h2.limbs (by omega) hm'
  have hb1 := nrm_len (s := s) (e := e) h1.limbs
  have hb1' := nrm_len (s := s') (e := e') h2.limbs
  have hzx := nrm_zero_e ⟨s, valL l, e⟩
  have hzy := nrm_zero_e ⟨s', valL k, e'⟩
  obtain ⟨X, hX⟩ : ∃ X, nrm ⟨s, valL l, e⟩ = X := ⟨_, rfl⟩
  obtain ⟨Y, hY⟩ : ∃ Y, nrm ⟨s', valL k, e'⟩ = Y := ⟨_, rfl⟩
  simp only [hX] at hN1 hb0 hb1 hO hnear hzx
  simp only [hY] at hN2 hb0' hb1' hO hnear hzy
  obtain ⟨xs, xm, xe⟩ := X
  obtain ⟨ys, ym, ye⟩ := Y
  simp only at hN1 hN2 hb0 hb0' hb1 hb1' hzx hzy
  have hl1 : (limbs xm).length ≤ 1000 := by omega
  have hl2 : (limbs ym).length ≤ 1000 := by omega
  have HH := Lib.hid (And.intro hO (And.intro hnear (And.intro hzx (And.intro hzy (And.intro hb0 (And.intro hb0' (And.intro hl1 hl2)))))))
  clear hX hY hO hm hm' h1 h2 hb1 hb1' hl hnear hzx hzy hb0 hb0' hl1 hl2
  go_enter Tryz.func39, Tryz.ntmps39
  go_wp2_with fail
  refine (hM1 _ (by repeat' (first | exact Below.refl _ _ | refine below_alloc ?_ _))).mono ?_
  rintro x w1 ⟨rfl, hb⟩
  have X1 := X0.below hb
  have Y1 := Y0.below hb
  have R1 := R0.below hb
  have HB1 := below_step (w0 := w) (by (repeat' (first | exact Below.refl _ _ | assumption | (refine below_alloc ?_ _) | (refine Below.setCell ?_ ?_ _) | (refine Below.drew ?_) | (refine below_drewN ?_ _))) <;> (first | (simp; done) | (simp; omega) | omega)) hb
  clear hb X0 Y0 R0 hM1
  obtain ⟨x0, x1, x2, _, _, _⟩ := id X1
  obtain ⟨y0, y1, y2, _, _, _⟩ := id Y1
  go_wp2_with fail
  refine (hM2 _ HB1).mono ?_
  rintro x w2 ⟨rfl, hb⟩
  have X2 := X1.below hb
  have Y2 := Y1.below hb
  have R2 := R1.below hb
  have HB2 := below_step HB1 hb
  clear hb X1 Y1 R1 hM2 HB1 x0 x1 x2 y0 y1 y2
  obtain ⟨x0, x1, x2, f0, f1, f2⟩ := id X2
  obtain ⟨y0, y1, y2, g0, g1, g2⟩ := id Y2
  go_wp2_with fail
  go_cut [] from 9 (fun wx => ∃ p1 q1 r1 p2 q2 r2, Boxed3 wx w.heap.size xs p1 q1 r1 xe ∧ Boxed3 wx (w.heap.size + 1) ys p2 q2 r2 ye ∧ Boxed3 wx (w.heap.size + 1 + 1) false none 0 0 0 ∧ Num wx p1 q1 r1 (limbs xm) ∧ Num wx p2 q2 r2 (limbs ym) ∧ Below w.heap.size w wx)
  case first =>
    go_region_with ((first | (go_at_call 82; (with_reducible refine (hN1 _ (by first | assumption | exact Below.drew (by assumption) | ((repeat' (first | exact Below.refl _ _ | assumption | (refine below_alloc ?_ _) | (refine Below.setCell ?_ ?_ _) | (refine Below.drew ?_) | (refine below_drewN ?_ _))) <;> (first | (simp; done) | (simp; omega) | omega)))).mono ?_); rintro e v1 ⟨p1, q1, r1, rfl, M1, hb⟩; have U1 := Boxed3.below (b := w.heap.size) (by first | assumption | exact Boxed3.drew (by assumption)) hb; have V1 := Boxed3.below (b := w.heap.size + 1) (by first | assumption | exact Boxed3.drew (by assumption)) hb; have T1 := Boxed3.below (b := w.heap.size + 1 + 1) (by first | assumption | exact Boxed3.drew (by assumption)) hb; have HC1 := below_step (w0 := w) (by first | assumption | exact Below.drew (by assumption) | ((repeat' (first | exact Below.refl _ _ | assumption | (refine below_alloc ?_ _) | (refine Below.setCell ?_ ?_ _) | (refine Below.drew ?_) | (refine below_drewN ?_ _))) <;> (first | (simp; done) | (simp; omega) | omega))) hb; obtain ⟨x0, x1, x2, f0, f1, f2⟩ := id U1; obtain ⟨y0, y1, y2, h0, h1, h2⟩ := id V1; clear hb) | (go_at_call 82; (with_reducible refine (hN2 _ (by first | assumption | exact Below.drew (by assumption) | ((repeat' (first | exact Below.refl _ _ | assumption | (refine below_alloc ?_ _) | (refine Below.setCell ?_ ?_ _) | (refine Below.drew ?_) | (refine below_drewN ?_ _))) <;> (first | (simp; done) | (simp; omega) | omega)))).mono ?_); rintro e v2 ⟨p2, q2, r2, rfl, M2, hb⟩; have U2 := Boxed3.below (b := w.heap.size) (by first | assumption | exact Boxed3.drew (by assumption)) hb; have V2 := Boxed3.below (b := w.heap.size + 1) (by first | assumption | exact Boxed3.drew (by assumption)) hb; have T2 := Boxed3.below (b := w.heap.size + 1 + 1) (by first | assumption | exact Boxed3.drew (by assumption)) hb; have HC2 := below_step (w0 := w) (by first | assumption | exact Below.drew (by assumption) | ((repeat' (first | exact Below.refl _ _ | assumption | (refine below_alloc ?_ _) | (refine Below.setCell ?_ ?_ _) | (refine Below.drew ?_) | (refine below_drewN ?_ _))) <;> (first | (simp; done) | (simp; omega) | omega))) hb; have M3 := Num.below M1 hb; obtain ⟨x0, x1, x2, f0, f1, f2⟩ := id U2; obtain ⟨y0, y1, y2, h0, h1, h2⟩ := id V2; clear hb)))
    all_goals obtain ⟨W5, hW5⟩ : ∃ W5, (((((v2.setCell ⟨w.heap.size, 0, none⟩ (.bool xs)).setCell ⟨w.heap.size, 1, none⟩ (.slice p1 q1 r1)).setCell ⟨w.heap.size, 2, none⟩ (.int .i64 xe)).setCell ⟨w.heap.size + 1, 0, none⟩ (.bool ys)).setCell ⟨w.heap.size + 1, 1, none⟩ (.slice p2 q2 r2)).setCell ⟨w.heap.size + 1, 2, none⟩ (.int .i64 ye) = W5 := ⟨_, rfl⟩
    all_goals have V3 := ((V2.other (k := w.heap.size) (by omega) 0 (.bool xs)).other (k := w.heap.size) (by omega) 1 (.slice p1 q1 r1)).other (k := w.heap.size) (by omega) 2 (.int .i64 xe)
    all_goals have U3 := U2.fill xs p1 q1 r1 xe
    all_goals have X5 : Boxed3 W5 w.heap.size xs p1 q1 r1 xe := by rw [← hW5]; exact ((U3.other (by omega) _ _).other (by omega) _ _).other (by omega) _ _
    all_goals have Y5 : Boxed3 W5 (w.heap.size + 1) ys p2 q2 r2 ye := by rw [← hW5]; exact V3.fill ..
    all_goals have R5 : Boxed3 W5 (w.heap.size + 1 + 1) false none 0 0 0 := by rw [← hW5]; exact (((((T2.other (by omega) _ _).other (by omega) _ _).other (by omega) _ _).other (by omega) _ _).other (by omega) _ _).other (by omega) _ _
    all_goals have L1 : Num W5 p1 q1 r1 (limbs xm) := by rw [← hW5]; exact Num.fill V3 (Num.fill U2 M3 ..) ..
    all_goals have L2 : Num W5 p2 q2 r2 (limbs ym) := by rw [← hW5]; exact Num.fill V3 (Num.fill U2 M2 ..) ..
    all_goals have HB5 : Below w.heap.size w W5 := by rw [← hW5]; exact Below.fill3 (Below.fill3 HC2 (Nat.le_refl _) _ _ _) (Nat.le_succ _) _ _ _
    all_goals rw [hW5]
    all_goals clear hW5 U3 V3 U1 V1 T1 HC1 M1 U2 V2 T2 HC2 M2 M3 x0 x1 x2 f0 f1 f2 y0 y1 y2 X2 Y2 R2 HB2 hN1 hN2
    all_goals go_wp2_with fail
    all_goals go_meet
    all_goals exact ⟨p1, q1, r1, p2, q2, r2, X5, Y5, R5, L1, L2, HB5⟩
  case rest =>
    clear x0 x1 x2 f0 f1 f2 y0 y1 y2 g0 g1 g2 X2 Y2 R2 HB2 hN1 hN2
    obtain ⟨p1, q1, r1, p2, q2, r2, X5, Y5, R5, L1, L2, HB5⟩ := hcut
    obtain ⟨hO, hnear, hzx, hzy, hb0, hb0', hl1, hl2⟩ := HH.out
    clear HH
    have L1' := Lib.hid L1
    have L2' := Lib.hid L2
    clear L1 L2
    have hF := fun wx (h : Below wc.heap.size wc wx) => rfar3_any xs ys xe ye xm ym (L1'.out.below h) (L2'.out.below h) (by omega) (by omega) (by omega) (by omega)
    obtain ⟨x0, x1, x2, _, _, _⟩ := id X5
    obtain ⟨y0, y1, y2, _, _, _⟩ := id Y5
    by_cases hf : farD ⟨xs, xm, xe⟩ ⟨ys, ym, ye⟩
    · rw [if_pos hf] at hO
      obtain ⟨rfl, rfl⟩ : zeroD = R ∧ 3 = r := ⟨congrArg Prod.fst hO, congrArg Prod.snd hO⟩
      simp only [decide_eq_true hf] at hF
      clear hO hnear hzx hzy hb0 hb0' hl1 hl2 hf
      go_wp2_with fail
      refine (hF _ (Below.refl _ _)).mono ?_
      rintro x w3 ⟨rfl, hb⟩
      have R6 := R5.below hb
      have HB6 := below_step HB5 hb
      clear hb X5 Y5 R5 HB5 hF x0 x1 x2 y0 y1 y2
      obtain ⟨r0, r1', r2', g0, g1, g2⟩ := id R6
      go_wp2_with fail
      exact bodyPost_ret (v := .tuple #[.agg #[.bool false, .slice none 0 0, .int .i64 0], .int .i64 3]) (by simp [results, Tryz.results39, go_sem, r0, r1', r2', g0, g1, g2]) rfl ⟨none, 0, 0, rfl, (by show Num _ _ _ _ (limbs 0); rw [limbs_zero]; exact Num.nil _), by (repeat' (first | exact Below.refl _ _ | assumption | (refine below_alloc ?_ _) | (refine Below.setCell ?_ ?_ _) | (refine Below.drew ?_) | (refine below_drewN ?_ _))) <;> (first | (simp; done) | (simp; omega) | omega)⟩
    · rw [if_neg hf] at hO
      simp only [decide_eq_false hf] at hF
      have hnr : nearD ⟨xs, xm, xe⟩ ⟨ys, ym, ye⟩ := hnear.resolve_left hf
      obtain ⟨E, hE⟩ : ∃ E, lowE ⟨xs, xm, xe⟩ ⟨ys, ym, ye⟩ = E := ⟨_, rfl⟩
      obtain ⟨p, hp⟩ : ∃ p, (xe - E).toNat = p := ⟨_, rfl⟩
      obtain ⟨q, hq⟩ : ∃ q, (ye - E).toNat = q := ⟨_, rfl⟩
      obtain ⟨X', hX'⟩ : ∃ X', xm * 2 ^ p = X' := ⟨_, rfl⟩
      obtain ⟨Y', hY'⟩ : ∃ Y', ym * 2 ^ q = Y' := ⟨_, rfl⟩
      have hlx := lowE_x ⟨xs, xm, xe⟩ ⟨ys, ym, ye⟩
      have hly := lowE_y ⟨xs, xm, xe⟩ ⟨ys, ym, ye⟩
      rw [hE] at hlx hly
      have b01 : -1000000 ≤ E ∧ E ≤ 1000000 := by rw [← hE]; unfold lowE; (repeat' split) <;> (try simp only) <;> omega
      have b0 : -1000000000 ≤ E := by omega
      have b1 : E ≤ 1000000000 := by omega
      have hlX : (limbs X').length ≤ 1188 := by
        by_cases h0 : xm = 0
        · rw [← hX', h0, Nat.zero_mul, limbs_zero]; simp
        · refine pow_len hX'.symm hl1 ?_
          rcases hnr with h | h | h
          · exact absurd h h0
          · have : E = xe := by rw [← hE]; unfold lowE; rw [if_neg (by exact h0), if_pos h]
            omega
          · by_cases h0' : ym = 0
            · have : E = xe := by rw [← hE]; unfold lowE; rw [if_neg (by exact h0), if_pos (by exact h0')]
              omega
            · have : E = min xe ye := by rw [← hE]; unfold lowE; rw [if_neg (by exact h0), if_neg (by exact h0')]
              simp only at h
              omega
      have hlY : (limbs Y').length ≤ 1188 := by
        by_cases h0 : ym = 0
        · rw [← hY', h0, Nat.zero_mul, limbs_zero]; simp
        · refine pow_len hY'.symm hl2 ?_
          rcases hnr with h | h | h
          · have : E = ye := by rw [← hE]; unfold lowE; rw [if_pos h]
            omega
          · exact absurd h h0
          · by_cases h0' : xm = 0
            · have : E = ye := by rw [← hE]; unfold lowE; rw [if_pos (by exact h0')]
              omega
            · have : E = min xe ye := by rw [← hE]; unfold lowE; rw [if_neg (by exact h0'), if_neg (by exact h0)]
              simp only at h
              omega
      have hadd : addD ⟨xs, xm, xe⟩ ⟨ys, ym, ye⟩ = (if xs = ys then ⟨xs, X' + Y', E⟩ else if X' < Y' then ⟨ys, Y' - X', E⟩ else ⟨xs, X' - Y', E⟩) := by
        unfold addD atE
        simp only [hE, hp, hq, hX', hY']
      rw [hadd] at hO
      have hV := fun wx (h : Below wc.heap.size wc wx) => rlevel3_any xs ys xe ye E xm ym p q X' Y' (L1'.out.below h) (L2'.out.below h) (Nat.le_trans hl1 (by omega)) (Nat.le_trans hl2 (by omega)) hzx hzy hE hf hp hq hX' hY' (by omega) (by omega) (by omega) (by omega)
      clear hnear hzx hzy hf hnr hE hp hq hX' hY' hlx hly hadd b01
      go_wp2_with fail
      refine (hF _ (Below.refl _ _)).mono ?_
      rintro x w3 ⟨rfl, hb⟩
      have X6 := X5.below hb
      have Y6 := Y5.below hb
      have R6 := R5.below hb
      have HB6 := below_step HB5 hb
      have hV1 := hV _ hb
      clear hb X5 Y5 R5 HB5 hF hV x0 x1 x2 y0 y1 y2
      obtain ⟨x0, x1, x2, _, _, _⟩ := id X6
      obtain ⟨y0, y1, y2, _, _, _⟩ := id Y6
      go_wp2_with fail
      refine hV1.mono ?_
      rintro x w4 ⟨a3, n3, c3, a4, n4, c4, rfl, N3, N4, hb⟩
      have X7 := X6.below hb
      have Y7 := Y6.below hb
      have R7 := R6.below hb
      have HB7 := below_step HB6 hb
      have N3' := Lib.hid N3
      have N4' := Lib.hid N4
      clear hb X6 Y6 R6 HB6 hV1 x0 x1 x2 y0 y1 y2 N3 N4
      obtain ⟨x0, x1, x2, _, _, _⟩ := id X7
      obtain ⟨y0, y1, y2, _, _, _⟩ := id Y7
      by_cases hs : xs = ys
      · rw [if_pos hs] at hO
        subst hs
        have hlen : (limbs (X' + Y')).length ≤ 4000 := by
          have := len_add (limbs_limbs X') (limbs_limbs Y')
          rw [valL_limbs, valL_limbs] at this
          omega
        have hD := fun w' a' n' c' (hn : Num w' a' n' c' (limbs (X' + Y'))) => rDone3_any xs E hn hlen (by omega) (by omega)
        simp only [valL_limbs, hO] at hD
        have hA := fun wx (h : Below w4.heap.size w4 wx) => radd_n (X' + Y') (N3'.out.below h) (N4'.out.below h) (by rw [valL_limbs, valL_limbs]) (by omega)
        clear hO
        go_wp2_with fail
        have HK := Below.refl w4.heap.size w4
        go_region_held3 (fun wx => Below w.heap.size w wx ∧ wx.cell? ⟨w.heap.size, 0, none⟩ = some (.bool xs)) (first | (refine ⟨?_, ?_⟩ <;> first | assumption | exact Below.drew (by assumption)) | exact ⟨Below.fill3 HB12 (by omega) _ _ _, (B12.other3 (by omega) _ _ _).c0⟩) ((first | (go_at_call 88; (with_reducible refine (hA _ (by first | assumption | exact Below.drew (by assumption))).mono ?_); rintro e v6 ⟨p6, q6, r6, rfl, M6, hb⟩; have B11 := (X7.drew).below hb; have R11 := (R7.drew).below hb; have HB11 := below_step (w0 := w) (Below.drew HB7) hb; have hD6 := hD _ _ _ _ M6; clear x0 x1 x2 y0 y1 y2; obtain ⟨x0, x1, x2, f0, f1, f2⟩ := id B11; clear hb) | (go_at_call 55; (with_reducible refine hD6.mono ?_); rintro e v7 ⟨p7, q7, r7, rfl, M7, hb⟩; have B12 := B11.below hb; have R12 := R11.below hb; have HB12 := below_step (w0 := w) HB11 hb; clear x0 x1 x2 f0 f1 f2; obtain ⟨x0, x1, x2, f0, f1, f2⟩ := id B12; obtain ⟨r0, r1', r2', g0, g1, g2⟩ := id R12; clear hb)))
        go_wp2_with fail
        exact bodyPost_ret (v := .tuple #[.agg #[.bool R.s, .slice p7 q7 r7, .int .i64 R.e], .int .i64 r]) (by simp [results, Tryz.results39, go_sem, r0, r1', r2', g0, g1, g2]) rfl ⟨p7, q7, r7, rfl, Num.fill R12 M7 .., Below.fill3 HB12 (by omega) _ _ _⟩
      · rw [if_neg hs] at hO
        have hsb : (xs == ys) = false := by cases xs <;> cases ys <;> first | rfl | exact absurd rfl hs
        clear hs
        have hC := fun wx (h : Below w4.heap.size w4 wx) => rcmp_n (N3'.out.below h) (N4'.out.below h) (by omega)
        simp only [valL_limbs] at hC
        by_cases hc : X' < Y'
        · rw [if_pos hc] at hO
          have hlen : (limbs (Y' - X')).length ≤ 4000 := Nat.le_trans (length_mono (Nat.sub_le _ _)) (by omega)
          have hD := fun w' a' n' c' (hn : Num w' a' n' c' (limbs (Y' - X'))) => rDone3_any ys E hn hlen (by omega) (by omega)
          simp only [valL_limbs, hO] at hD
          have hA := fun wx (h : Below w4.heap.size w4 wx) => rsub_n (Y' - X') (N4'.out.below h) (N3'.out.below h) (by rw [valL_limbs, valL_limbs]; omega) (by omega)
          simp only [cmp_lt hc] at hC
          clear hO hc
          go_wp2_with fail
          refine (hC _ (Below.refl _ _)).mono ?_
          rintro x w5 ⟨rfl, hb⟩
          have X8 := X7.below hb
          have Y8 := Y7.below hb
          have R8 := R7.below hb
          have HB8 := below_step HB7 hb
          replace hA := fun wx (h : Below w5.heap.size w5 wx) => hA wx (below_step hb h)
          clear hb X7 Y7 R7 HB7 hC x0 x1 x2 y0 y1 y2
          obtain ⟨x0, x1, x2, _, _, _⟩ := id X8
          obtain ⟨y0, y1, y2, _, _, _⟩ := id Y8
          go_wp2_with fail
          have HK := Below.refl w5.heap.size w5
          go_region_held3 (fun wx => Below w.heap.size w wx ∧ wx.cell? ⟨w.heap.size + 1, 0, none⟩ = some (.bool ys)) (first | (refine ⟨?_, ?_⟩ <;> first | assumption | exact Below.drew (by assumption)) | exact ⟨Below.fill3 HB12 (by omega) _ _ _, (B12.other3 (by omega) _ _ _).c0⟩) ((first | (go_at_call 113; (with_reducible refine (hA _ (by first | assumption | exact Below.drew (by assumption))).mono ?_); rintro e v6 ⟨p6, q6, r6, rfl, M6, hb⟩; have B11 := (Y8.drew).below hb; have R11 := (R8.drew).below hb; have HB11 := below_step (w0 := w) (Below.drew HB8) hb; have hD6 := hD _ _ _ _ M6; clear x0 x1 x2 y0 y1 y2; obtain ⟨x0, x1, x2, f0, f1, f2⟩ := id B11; clear hb) | (go_at_call 55; (with_reducible refine hD6.mono ?_); rintro e v7 ⟨p7, q7, r7, rfl, M7, hb⟩; have B12 := B11.below hb; have R12 := R11.below hb; have HB12 := below_step (w0 := w) HB11 hb; clear x0 x1 x2 f0 f1 f2; obtain ⟨x0, x1, x2, f0, f1, f2⟩ := id B12; obtain ⟨r0, r1', r2', g0, g1, g2⟩ := id R12; clear hb)))
          go_wp2_with fail
          exact bodyPost_ret (v := .tuple #[.agg #[.bool R.s, .slice p7 q7 r7, .int .i64 R.e], .int .i64 r]) (by simp [results, Tryz.results39, go_sem, r0, r1', r2', g0, g1, g2]) rfl ⟨p7, q7, r7, rfl, Num.fill R12 M7 .., Below.fill3 HB12 (by omega) _ _ _⟩
        · rw [if_neg hc] at hO
          have hlen : (limbs (X' - Y')).length ≤ 4000 := Nat.le_trans (length_mono (Nat.sub_le _ _)) (by omega)
          have hD := fun w' a' n' c' (hn : Num w' a' n' c' (limbs (X' - Y'))) => rDone3_any xs E hn hlen (by omega) (by omega)
          simp only [valL_limbs, hO] at hD
          have hA := fun wx (h : Below w4.heap.size w4 wx) => rsub_n (X' - Y') (N3'.out.below h) (N4'.out.below h) (by rw [valL_limbs, valL_limbs]; omega) (by omega)
          obtain ⟨z, hz, hz0⟩ : ∃ z, cmpN X' Y' = z ∧ (0 : Int) ≤ z := ⟨_, rfl, by rcases cmp_ge hc with h | h <;> omega⟩
          simp only [hz] at hC
          clear hO hc hz
          go_wp2_with fail
          refine (hC _ (Below.refl _ _)).mono ?_
          rintro x w5 ⟨rfl, hb⟩
          have X8 := X7.below hb
          have Y8 := Y7.below hb
          have R8 := R7.below hb
          have HB8 := below_step HB7 hb
          replace hA := fun wx (h : Below w5.heap.size w5 wx) => hA wx (below_step hb h)
          clear hb X7 Y7 R7 HB7 hC x0 x1 x2 y0 y1 y2
          obtain ⟨x0, x1, x2, _, _, _⟩ := id X8
          obtain ⟨y0, y1, y2, _, _, _⟩ := id Y8
          go_wp2_with fail
          have HK := Below.refl w5.heap.size w5
          go_region_held3 (fun wx => Below w.heap.size w wx ∧ wx.cell? ⟨w.heap.size, 0, none⟩ = some (.bool xs)) (first | (refine ⟨?_, ?_⟩ <;> first | assumption | exact Below.drew (by assumption)) | exact ⟨Below.fill3 HB12 (by omega) _ _ _, (B12.other3 (by omega) _ _ _).c0⟩) ((first | (go_at_call 113; (with_reducible refine (hA _ (by first | assumption | exact Below.drew (by assumption))).mono ?_); rintro e v6 ⟨p6, q6, r6, rfl, M6, hb⟩; have B11 := (X8.drew).below hb; have R11 := (R8.drew).below hb; have HB11 := below_step (w0 := w) (Below.drew HB8) hb; have hD6 := hD _ _ _ _ M6; clear x0 x1 x2 y0 y1 y2; obtain ⟨x0, x1, x2, f0, f1, f2⟩ := id B11; clear hb) | (go_at_call 55; (with_reducible refine hD6.mono ?_); rintro e v7 ⟨p7, q7, r7, rfl, M7, hb⟩; have B12 := B11.below hb; have R12 := R11.below hb; have HB12 := below_step (w0 := w) HB11 hb; clear x0 x1 x2 f0 f1 f2; obtain ⟨x0, x1, x2, f0, f1, f2⟩ := id B12; obtain ⟨r0, r1', r2', g0, g1, g2⟩ := id R12; clear hb)))
          go_wp2_with fail
          exact bodyPost_ret (v := .tuple #[.agg #[.bool R.s, .slice p7 q7 r7, .int .i64 R.e], .int .i64 r]) (by simp [results, Tryz.results39, go_sem, r0, r1', r2', g0, g1, g2]) rfl ⟨p7, q7, r7, rfl, Num.fill R12 M7 .., Below.fill3 HB12 (by omega) _ _ _⟩
end
end Go.Proofs.YtjlaadadbpffdaaGreatDoor
