/-
  nat.Div, Sqrt at every number that may be.
-/
import Derived.Test.YtjlaadadbpffdaaGreatDoorNatS
import Derived.Deep.LoopGhost
set_option linter.unusedSimpArgs false
set_option linter.unusedVariables false
namespace Go.Plumb
theorem powB64 (m : Nat) : (18446744073709551616 : Nat) ^ m = 2 ^ (64 * m) := by rw [Nat.pow_mul]
theorem pow_small (k : Nat) (h : k ≤ 131073) : ∃ E, E ≤ 2049 ∧ (2 : Nat) ^ k < 18446744073709551616 ^ E :=
  ⟨k / 64 + 1, by omega, by rw [powB64]; exact Nat.pow_lt_pow_right (by decide) (by omega)⟩
theorem length_mono {a b : Nat} (h : a ≤ b) : (limbs a).length ≤ (limbs b).length := by
  apply Nat.le_of_not_lt
  intro hlt
  have := lt_of_length hlt
  omega
theorem newton_small (A x : Nat) (hA : 0 < x) (hs : 0 < isqN A) (hx : isqN A ≤ x) : A / x ≤ isqN A + 2 := by
  have h1 : A / x ≤ A / isqN A := Nat.div_le_div_left hx hs
  have h2 := (isqN_spec A).2
  have h3 : A / isqN A < isqN A + 3 := by
    rw [Nat.div_lt_iff_lt_mul hs]
    generalize isqN A = s at *
    have e1 : (s + 1) * (s + 1) = s * s + 2 * s + 1 := by rw [Nat.add_mul, Nat.mul_add]; omega
    have e2 : (s + 3) * s = s * s + 3 * s := by rw [Nat.add_mul]
    omega
  generalize A / x = p at *
  generalize A / isqN A = q at *
  omega
theorem length_small (Q X : Nat) (h : Q ≤ X + 2) {E : Nat} (hX : X < 18446744073709551616 ^ E) : (limbs Q).length ≤ E + 1 := by
  apply length_limbs_le
  rw [Nat.pow_succ]
  generalize 18446744073709551616 ^ E = q at *
  omega
theorem length_small2 (Q g X : Nat) (hg : g ≤ X) {s : Nat} (h : Q ≤ s + 2) (hs : s ≤ g) {E : Nat} (hX : X < 18446744073709551616 ^ E) : (limbs (g + Q)).length ≤ E + 1 := by
  apply length_limbs_le
  rw [Nat.pow_succ]
  generalize 18446744073709551616 ^ E = q at *
  omega
end Go.Plumb
namespace Go.Proofs.YtjlaadadbpffdaaGreatDoor
open Go.RowKit Go.Plumb

set_option maxHeartbeats 1000000 in
theorem Div_ok (a b : Option Addr) (c d : Nat) (l m : List Nat) (w : World) (hA : Arr w a c l) (hB : Arr w b d m) (hl : (limbs (valL l)).length ≤ 4096) (hm : (limbs (valL m)).length ≤ 4096) (h0 : valL m ≠ 0) :
    Calls Tryz.prog 79 #[.slice a l.length c, .slice b m.length d] w fun e w' => ∃ a' c' b' d', e = .returned (.tuple #[.slice a' (limbs (valL l / valL m)).length c', .slice b' (limbs (valL l % valL m)).length d', .int .i64 0]) ∧ Arr w' a' c' (limbs (valL l / valL m)) ∧ Arr w' b' d' (limbs (valL l % valL m)) ∧ Below w.heap.size w w' := by
  have hO := open2_in a b c d l m w hA hB hl hm
  obtain ⟨w2, hw2⟩ : ∃ w2, ((w.alloc (.cells #[.slice a (limbs (valL l)).length c] 22)).alloc (.cells #[.slice b (limbs (valL m)).length d] 22)).alloc (.cells #[.pointer (some ⟨w.heap.size, 0, none⟩), .pointer (some ⟨w.heap.size + 1, 0, none⟩)] 135) = w2 := ⟨_, rfl⟩
  have hB2 : Below w.heap.size w w2 := by rw [← hw2]; (repeat' (first | exact Below.refl _ _ | assumption | (refine below_alloc ?_ _) | (refine Below.setCell ?_ ?_ _) | (refine Below.drew ?_) | (refine below_drewN ?_ _))) <;> (first | (simp; done) | (simp; omega) | omega)
  rw [hw2] at hO
  have hD := div_any a b c d (valL l) (valL m) w2 (hA.norm.below hB2) (hB.norm.below hB2) (by omega) (by omega) h0
  have hp : 0 < (limbs (valL m)).length := List.length_pos_iff.2 fun e => h0 ((limbs_nil_iff _).1 e)
  obtain ⟨n1, hn1⟩ : ∃ n1, (limbs (valL l)).length = n1 := ⟨_, rfl⟩
  obtain ⟨n2, hn2⟩ : ∃ n2, (limbs (valL m)).length = n2 := ⟨_, rfl⟩
  have c1 : w2.cell? ⟨w.heap.size, 0, none⟩ = some (.slice a n1 c) := by rw [← hw2, hn1]; simp [go_sem]
  have c2 : w2.cell? ⟨w.heap.size + 1, 0, none⟩ = some (.slice b n2 d) := by rw [← hw2, hn2]; simp [go_sem]
  rw [hn1, hn2] at hD
  rw [hn2] at hp
  have z1 : ((n2 : Int) == 0) = false := by simp; omega
  have HB2 := Lib.hid hB2
  clear hw2 hA hB hB2 hn1 hn2 hl hm h0
  go_enter Tryz.func79, Tryz.ntmps79
  go_wp2_with fail
  refine hO.mono ?_
  rintro e w' ⟨rfl, rfl⟩
  clear hO
  go_wp2_with fail
  refine hD.mono ?_
  rintro e w3 ⟨a', c', b', d', rfl, hq, hr, hb3⟩
  have HQ := Lib.hid hq
  have HR := Lib.hid hr
  have HB3 := Lib.hid (below_step HB2.out hb3)
  clear hD hq hr hb3
  go_wp2_with fail
  go_ret3
  exact ⟨_, _, _, _, rfl, HQ.out, HR.out, HB3.out⟩
theorem Div_zero (a b : Option Addr) (c d : Nat) (l m : List Nat) (w : World) (hA : Arr w a c l) (hB : Arr w b d m) (hl : (limbs (valL l)).length ≤ 4096) (h0 : valL m = 0) :
    Calls Tryz.prog 79 #[.slice a l.length c, .slice b m.length d] w fun e w' => e = .returned (.tuple #[.slice none 0 0, .slice none 0 0, .int .i64 2]) ∧ Below w.heap.size w w' := by
  have hO := open2_in a b c d l m w hA hB hl (by rw [h0, limbs_zero]; simp)
  rw [h0, limbs_zero, List.length_nil] at hO
  obtain ⟨w2, hw2⟩ : ∃ w2, ((w.alloc (.cells #[.slice a (limbs (valL l)).length c] 22)).alloc (.cells #[.slice b 0 d] 22)).alloc (.cells #[.pointer (some ⟨w.heap.size, 0, none⟩), .pointer (some ⟨w.heap.size + 1, 0, none⟩)] 135) = w2 := ⟨_, rfl⟩
  have hB2 : Below w.heap.size w w2 := by rw [← hw2]; (repeat' (first | exact Below.refl _ _ | assumption | (refine below_alloc ?_ _) | (refine Below.setCell ?_ ?_ _) | (refine Below.drew ?_) | (refine below_drewN ?_ _))) <;> (first | (simp; done) | (simp; omega) | omega)
  rw [hw2] at hO
  have c2 : w2.cell? ⟨w.heap.size + 1, 0, none⟩ = some (.slice b 0 d) := by rw [← hw2]; simp [go_sem]
  have HB2 := Lib.hid hB2
  clear hw2 hA hB hB2 hl h0
  go_enter Tryz.func79, Tryz.ntmps79
  go_wp2_with fail
  refine hO.mono ?_
  rintro e w' ⟨rfl, rfl⟩
  clear hO
  go_wp2_with fail
  go_ret3
  exact ⟨rfl, HB2.out⟩
theorem Sqrt_zero (a : Option Addr) (c : Nat) (l : List Nat) (w : World) (hA : Arr w a c l) (h0 : valL l = 0) :
    Calls Tryz.prog 87 #[.slice a l.length c] w fun e w' => e = .returned (.tuple #[.slice none 0 0, .slice none 0 0, .int .i64 0]) ∧ Below w.heap.size w w' := by
  have hBt := Bits_any a c l w hA (by rw [h0, limbs_zero]; simp)
  rw [h0, show lenN 0 = 0 from rfl] at hBt
  clear hA h0
  go_enter Tryz.func87, Tryz.ntmps87
  go_wp2_with fail
  refine hBt.mono ?_
  rintro e w' ⟨rfl, hb⟩
  go_wp2_with fail
  go_ret3
  exact ⟨rfl, hb⟩
set_option maxHeartbeats 2000000 in
theorem Sqrt_pos (a : Option Addr) (c : Nat) (l : List Nat) (w : World) (hA : Arr w a c l) (hl : (limbs (valL l)).length ≤ 4096) (h0 : valL l ≠ 0) :
    Calls Tryz.prog 87 #[.slice a l.length c] w fun e w' => ∃ a' c' b' d', e = .returned (.tuple #[.slice a' (limbs (isqN (valL l))).length c', .slice b' (limbs (valL l - isqN (valL l) * isqN (valL l))).length d', .int .i64 0]) ∧ Arr w' a' c' (limbs (isqN (valL l))) ∧ Arr w' b' d' (limbs (valL l - isqN (valL l) * isqN (valL l))) ∧ Below w.heap.size w w' := by
  have hBt := Bits_any a c l w hA hl
  obtain ⟨A, hAe⟩ : ∃ A, valL l = A := ⟨_, rfl⟩
  have hT := trim_any a c l
  rw [hAe] at hBt hl h0 hT ⊢
  obtain ⟨n, hn⟩ : ∃ n, lenN A = n := ⟨_, rfl⟩
  rw [hn] at hBt
  have hnpos : 0 < n := by
    rw [← hn]; unfold lenN; rw [if_neg h0]; omega
  have hn2 : n ≤ 262144 := by
    rw [← hn]
    have h1 := lt_pow_length A
    have hB : (18446744073709551616 : Nat) ^ (limbs A).length = 2 ^ (64 * (limbs A).length) := by rw [Nat.pow_mul]
    rw [hB] at h1
    have := lenN_le _ _ h1
    omega
  have hAlt : A < 2 ^ n := by rw [← hn]; exact lt_lenN A
  have HA : Hid (∀ wr, Below w.heap.size w wr → Arr wr a c l) := Lib.hid fun wr h => hA.below h
  have HAn : Hid (∀ wr, Below w.heap.size w wr → Arr wr a c (limbs A)) := Lib.hid fun wr h => by have := (hA.below h).norm; rwa [hAe] at this
  have H0 := Lib.hid h0
  have Hl := Lib.hid hl
  have HAlt := Lib.hid hAlt
  have z1 : ((n : Int) == 0) = false := by simp; omega
  clear hA hAe hn h0 hl hAlt
  go_enter Tryz.func87, Tryz.ntmps87
  go_wp2_with fail
  refine hBt.mono ?_
  rintro e w1 ⟨rfl, hb1⟩
  have hT1 := hT w1 (HA.out w1 hb1)
  have HB1 := Lib.hid hb1
  clear hBt hT hb1
  go_wp2_with fail
  refine hT1.mono ?_
  rintro e w' ⟨rfl, rfl⟩
  clear hT1
  go_wp2_with fail
  have hOf := nof_any 1 w1 (by decide)
  refine hOf.mono ?_
  rintro e w2 ⟨oa, oc, rfl, hoa, hb2⟩
  obtain ⟨k, hk⟩ : ∃ k, (n + 1) / 2 = k := ⟨_, rfl⟩
  have ek : ((n : Int) + 1) / 2 = (k : Int) := by omega
  have hkb : k ≤ 131073 := by omega
  have hSh := shl_any _ _ k 1 w2 hoa (by have := length_limbs_le 1 1 (by decide); omega) (by omega)
  rw [Nat.one_mul] at hSh
  have HB2 := Lib.hid (below_step HB1.out hb2)
  have Hs : Hid (isqN A ≤ 2 ^ k) := Lib.hid (by rw [← hk]; exact newton_start A n HAlt.out)
  clear hOf hoa hb2 hk
  go_wp2_with fail
  refine hSh.mono ?_
  rintro e w3 ⟨xa, xc, rfl, hox, hb3⟩
  have HX := Lib.hid (OwnL.arr' hox (limbs_limbs _))
  have HB3 := Lib.hid (below_step HB2.out hb3)
  clear hSh hox hb3
  go_wp2_with fail
  obtain ⟨E, hE, hkE⟩ := pow_small k hkb
  have Hk := Lib.hid hkE
  clear hkE
  obtain ⟨X0, hX0⟩ : ∃ X, (2 : Nat) ^ k = X := ⟨_, rfl⟩
  rw [hX0] at HX Hs Hk ⊢
  have HE := Lib.hid hE
  clear hE
  have Hs0 : Hid (0 < isqN A) := Lib.hid (isqN_pos A H0.out)
  clear hX0 ek
  go_loopg [6] X0 (fun g v wr => ∃ xa xc, v = .slice xa (limbs g).length xc ∧ Hid (Arr wr xa xc (limbs g)) ∧ Hid (isqN A ≤ g ∧ g ≤ X0) ∧ Hid (Below w.heap.size w wr))
  case atStart => exact ⟨xa, xc, rfl, HX, Lib.hid ⟨Hs.out, Nat.le_refl _⟩, HB3⟩
  case round =>
    obtain ⟨xa, xc, rfl, hAx, hXs, hBr⟩ := hrel
    obtain ⟨X, hXe⟩ : ∃ X, gk = X := ⟨_, rfl⟩
    subst hXe
    have hX0 : 0 < gk := Nat.lt_of_lt_of_le Hs0.out hXs.out.1
    have hsm := newton_small A gk (by omega) Hs0.out hXs.out.1
    have hlX : (limbs gk).length ≤ E := length_limbs_le _ _ (Nat.lt_of_le_of_lt hXs.out.2 Hk.out)
    have hlQ : (limbs (A / gk)).length ≤ E + 1 := length_small _ _ (by have := hXs.out; generalize A / gk = q at *; omega) Hk.out
    have hlS : (limbs (gk + A / gk)).length ≤ E + 1 := length_small2 _ _ _ hXs.out.2 hsm hXs.out.1 Hk.out
    have hDv := div_any _ _ _ _ A gk wr (HAn.out wr hBr.out) hAx.out (by have := Hl.out; omega) (by have := HE.out; omega) (by omega)
    obtain ⟨Q, hQ⟩ : ∃ Q, A / gk = Q := ⟨_, rfl⟩
    rw [hQ] at hDv hlQ hlS
    have HQ := Lib.hid hQ
    have HlX := Lib.hid hlX
    have HlQ := Lib.hid hlQ
    have HlS := Lib.hid hlS
    have HX0 := Lib.hid hX0
    clear hsm hlX hlQ hlS hQ hX0
    go_wp2_with fail
    refine hDv.mono ?_
    rintro e w4 ⟨qa, qc, ra, rc, rfl, hq, hr, hb4⟩
    have hAd := Add_ok xa qa xc qc (limbs gk) (limbs Q) w4 (hAx.out.below hb4) hq (by rw [valL_limbs]; have := HlX.out; have := HE.out; omega) (by rw [valL_limbs]; have := HlQ.out; have := HE.out; omega) (by rw [valL_limbs, valL_limbs]; have := HlS.out; have := HE.out; omega)
    rw [valL_limbs, valL_limbs] at hAd
    have HB4 := Lib.hid hb4
    clear hDv hq hr hb4
    go_wp2_with fail
    refine hAd.mono ?_
    rintro e w5 ⟨sa, sc, rfl, hs5, hb5⟩
    have hSr := shr_any sa sc 1 (gk + Q) w5 hs5 (by have := HlS.out; have := HE.out; omega) (by decide)
    have HB5 := Lib.hid (below_step HB4.out hb5)
    clear hAd hs5 hb5
    go_wp2_with fail
    refine hSr.mono ?_
    rintro e w6 ⟨ya, yc, rfl, hoy, hb6⟩
    obtain ⟨Y, hY⟩ : ∃ Y, (gk + Q) / 2 ^ 1 = Y := ⟨_, rfl⟩
    rw [hY] at hoy ⊢
    have HY := Lib.hid (show Y = (gk + A / gk) / 2 by rw [HQ.out, ← hY])
    have HAy := Lib.hid (OwnL.arr' hoy (limbs_limbs _))
    have HB6 := Lib.hid (below_step HB5.out hb6)
    have hcm := cmp_any ya xa yc xc Y gk w6 HAy.out (hAx.out.below HB6.out)
    obtain ⟨s, hs⟩ : ∃ s, cmpN Y gk = s := ⟨_, rfl⟩
    rw [hs] at hcm
    have HS : Hid (s < 0 ↔ Y < gk) := Lib.hid (by rw [← hs]; exact cmpN_lt _ _)
    clear hSr hoy hb6 hs hY
    go_wp2_with fail
    refine hcm.mono ?_
    rintro e w7 ⟨rfl, hb7⟩
    have HB7 := Lib.hid (below_step HB6.out hb7)
    have HAy7 := Lib.hid (HAy.out.below hb7)
    clear hcm hb7
    by_cases hlt : s < 0
    · have hlt2 : ¬ (0 : Int) ≤ s := by omega
      go_wp2_with fail
      go_roundg Y
      case rel => exact ⟨ya, yc, rfl, HAy7, Lib.hid ⟨by rw [HY.out]; exact newton_ge A _ gk HX0.out (isqN_spec A).1, by have := HS.out.1 hlt; have := hXs.out.2; omega⟩, Lib.hid (below_step hBr.out HB7.out)⟩
      case measure => exact HS.out.1 hlt
    · have hge : (0 : Int) ≤ s := by omega
      have hst := newton_stop A gk HX0.out hXs.out.1 (by rw [← HY.out]; have := HS.out; omega)
      have hsq := (isqN_spec A).1
      have hMu := Mul_ok xa xa xc xc (limbs gk) (limbs gk) w7 (hAx.out.below HB7.out) (hAx.out.below HB7.out) (by rw [valL_limbs]; have := HlX.out; have := HE.out; omega) (by rw [valL_limbs]; have := HlX.out; have := HE.out; omega) (by
        rw [valL_limbs]
        refine Nat.le_trans (length_mono ?_) Hl.out
        rw [hst]; exact hsq)
      rw [valL_limbs] at hMu
      have Hst := Lib.hid hst
      clear hst hsq
      go_wp2_with fail
      refine hMu.mono ?_
      rintro e w8 ⟨ma, mc, rfl, hm8, hb8⟩
      have HB8 := Lib.hid (below_step HB7.out hb8)
      have hSb := sub_any a ma c mc A (gk * gk) w8 (HAn.out w8 (below_step hBr.out HB8.out)) hm8 (by have := Hl.out; omega) (by rw [Hst.out]; exact (isqN_spec A).1)
      clear hMu hm8 hb8
      go_wp2_with fail
      refine hSb.mono ?_
      rintro e w9 ⟨da, dc, rfl, hod, hb9⟩
      have HAd := Lib.hid (OwnL.arr' hod (limbs_limbs _))
      have HB9 := Lib.hid (below_step HB8.out hb9)
      clear hSb hod hb9
      go_wp2_with fail
      go_ret3
      rw [← Hst.out]
      exact ⟨_, _, _, _, rfl, hAx.out.below HB9.out, HAd.out, below_step hBr.out HB9.out⟩
/-- nat.Sqrt at every number that may be. -/
theorem Sqrt_any (a : Option Addr) (c : Nat) (l : List Nat) (w : World) (hA : Arr w a c l) (hl : (limbs (valL l)).length ≤ 4096) :
    Calls Tryz.prog 87 #[.slice a l.length c] w fun e w' => ∃ a' c' b' d', e = .returned (.tuple #[.slice a' (limbs (isqN (valL l))).length c', .slice b' (limbs (valL l - isqN (valL l) * isqN (valL l))).length d', .int .i64 0]) ∧ Arr w' a' c' (limbs (isqN (valL l))) ∧ Arr w' b' d' (limbs (valL l - isqN (valL l) * isqN (valL l))) ∧ Below w.heap.size w w' := by
  by_cases h0 : valL l = 0
  · refine (Sqrt_zero a c l w hA h0).mono ?_
    rintro e w' ⟨rfl, hb⟩
    rw [h0, show isqN 0 = 0 from rfl, limbs_zero]
    exact ⟨none, 0, none, 0, rfl, Arr.nil _ _ _ (Nat.zero_le _), Arr.nil _ _ _ (Nat.zero_le _), hb⟩
  · exact Sqrt_pos a c l w hA hl h0
end Go.Proofs.YtjlaadadbpffdaaGreatDoor
