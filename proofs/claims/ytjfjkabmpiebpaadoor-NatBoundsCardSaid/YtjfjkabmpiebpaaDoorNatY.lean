/-
  The reference of layer 2: Bits, Bit, Zeros, Pow2, Shl.
-/
import Derived.Test.YtjfjkabmpiebpaaDoorNatX
set_option linter.unusedSimpArgs false
set_option linter.unusedVariables false
namespace Go.Plumb
theorem lenN_half (t : Nat) (h : t ≠ 0) : lenN t = lenN (t / 2) + 1 := by
  have h1 := lt_lenN (t / 2)
  by_cases h0 : t / 2 = 0
  · have : t = 1 := by omega
    subst this; rfl
  · have h2 := lenN_ge (t / 2) h0
    refine lenN_eq ?_ ?_
    · have e : lenN (t / 2) ≠ 0 := by intro e; rw [e] at h1; simp at h1; exact h0 (by omega)
      obtain ⟨j, hj⟩ : ∃ j, lenN (t / 2) = j + 1 := ⟨lenN (t / 2) - 1, by omega⟩
      rw [hj, Nat.add_sub_cancel] at h2
      rw [hj, Nat.pow_succ]; omega
    · rw [Nat.pow_succ]; omega
theorem zeros_bits (A i : Nat) (h : ∀ j, j < i → A.testBit j = false) (h1 : A.testBit i = true) : zerosN A = i := by
  refine zerosN_eq A i ?_ ?_
  · apply Nat.eq_of_testBit_eq
    intro j
    rw [Nat.testBit_mod_two_pow, Nat.zero_testBit]
    by_cases hj : j < i
    · simp [h j hj]
    · simp [hj]
  · rw [Nat.testBit_eq_decide_div_mod_eq] at h1
    simpa using h1
theorem bits_none (A : Nat) (h : ∀ j, j < lenN A → A.testBit j = false) : A = 0 := by
  apply Nat.eq_of_testBit_eq
  intro j
  rw [Nat.zero_testBit]
  by_cases hj : j < lenN A
  · exact h j hj
  · exact Nat.testBit_lt_two_pow (Nat.lt_of_lt_of_le (lt_lenN A) (Nat.pow_le_pow_right (by decide) (by omega)))
end Go.Plumb
namespace Go.Proofs.YtjfjkabmpiebpaaDoor
open Go.RowKit Go.Plumb

theorem rbits_nil (a : Option Addr) (c : Nat) (l : List Nat) (w : World) (hA : Arr w a c l) (hl : l.length ≤ 100000) (h0 : valL l = 0) :
    Calls Tryd.prog 41 #[.slice a l.length c] w fun e w' => e = .returned (.int .i64 0) ∧ Below w.heap.size w w' := by
  have hN := rnorm_any a c l w hA hl
  rw [h0, limbs_zero] at hN
  clear hA
  go_enter Tryd.func41, Tryd.ntmps41
  go_wp2_with fail
  refine hN.mono ?_
  rintro e w1 ⟨v, rfl, ho, hb⟩
  obtain ⟨a', c', rfl⟩ := OwnL.shape ho
  rw [List.length_nil]
  go_wp2_with fail
  go_ret
  exact ⟨rfl, hb⟩
set_option maxRecDepth 20000 in
set_option maxHeartbeats 1000000 in
theorem rbits_pos (a : Option Addr) (c : Nat) (l : List Nat) (w : World) (hA : Arr w a c l) (hl : l.length ≤ 100000) (h0 : valL l ≠ 0) :
    Calls Tryd.prog 41 #[.slice a l.length c] w fun e w' => e = .returned (.int .i64 (lenN (valL l) : Int)) ∧ Below w.heap.size w w' := by
  have hN := rnorm_any a c l w hA hl
  have hL := lenN_limbs _ h0
  have hll := limbs_length_le hA.2.2.1
  obtain ⟨L, hLL⟩ : ∃ L, lenN (valL l) = L := ⟨_, rfl⟩
  rw [hLL] at hL
  obtain ⟨la, hla⟩ : ∃ la, limbs (valL l) = la := ⟨_, rfl⟩
  have hp : 0 < la.length := List.length_pos_iff.2 fun e => h0 ((limbs_nil_iff _).1 (by rw [hla, e]))
  rw [hla] at hL hN hll
  obtain ⟨n, hn⟩ : ∃ n, la.length = n := ⟨_, rfl⟩
  obtain ⟨t, ht⟩ : ∃ t, la.getD (n - 1) 0 = t := ⟨_, rfl⟩
  have htl : t < 18446744073709551616 := by rw [← ht, ← hla]; exact (limbs_limbs _).get _
  rw [hn] at hp hll
  rw [hn, ht] at hL
  have HL := Lib.hid hL
  have HLL := Lib.hid hLL
  have Hn := Lib.hid hn
  have Ht := Lib.hid ht
  have Htl := Lib.hid htl
  have Hlim : Hid (Limbs la) := Lib.hid (by rw [← hla]; exact limbs_limbs _)
  have z1 : ((n : Int) == 0) = false := by simp; omega
  have z2 : (0 : Int) ≤ (n : Int) - 1 := by omega
  have z3 : (n : Int) - 1 < (n : Int) := by omega
  have z4 : ((n : Int) - 1).toNat = n - 1 := by omega
  have z5 : (n : Int) ≤ 100000 := by omega
  have hlt64 : lenN t ≤ 64 := lenN_le t 64 htl
  have Hlt := Lib.hid hlt64
  clear hA h0 hla hn ht hL hLL hll htl hlt64
  go_enter Tryd.func41, Tryd.ntmps41
  go_wp2_with fail
  refine hN.mono ?_
  rintro e w1 ⟨v, rfl, ho, hb⟩
  obtain ⟨a', c', rfl⟩ := OwnL.shape ho
  have harr := OwnL.arr' ho Hlim.out
  obtain ⟨q, o, e, hc⟩ := harr.2.2.2 (n - 1) (by rw [Hn.out]; omega)
  subst e
  rw [Ht.out] at hc
  rw [Hn.out]
  have HB := Lib.hid hb
  clear hN ho harr hb
  go_wp2_with fail
  go_loopw [3, 4] (fun u v wr => ∃ x y : Nat, u = .int .i64 (x : Int) ∧ v = .int .u64 (y : Int) ∧ Hid (x + lenN y = L ∧ y ≤ t) ∧ w1 = wr) (fun _ v _ => (intOf v).toNat)
  case atStart => exact ⟨64 * (n - 1), t, by go_num, rfl, Lib.hid ⟨HL.out.symm, Nat.le_refl _⟩, rfl⟩
  case round =>
    obtain ⟨x, y, rfl, rfl, hxy, rfl⟩ := hrel
    by_cases h0 : y = 0
    · subst h0
      have hx : x = L := by have h := hxy.out.1; rw [show lenN 0 = 0 from rfl] at h; omega
      have HX := Lib.hid hx
      clear hx
      go_wp2_with fail
      go_ret
      exact ⟨ret_int' (by rw [HX.out, HLL.out]), HB.out⟩
    · have hposN : 0 < y := by omega
      have hd : decide ((0 : Int) < (y : Int)) = true := by simp; omega
      have hyl : (y : Int) < 18446744073709551616 := by have := hxy.out.2; have := Htl.out; omega
      have hxl : (x : Int) ≤ 100000000 := by have h1 := hxy.out.1; have h2 := HL.out; have h3 := Hlt.out; omega
      have HY := Lib.hid h0
      clear h0 z1 z2 z3 z4 z5 hp
      go_wp2_with fail
      go_roundw
      case rel => exact ⟨x + 1, y / 2, by go_num, by go_num, Lib.hid ⟨by have h := hxy.out.1; rw [lenN_half y HY.out] at h; omega, by have := hxy.out.2; omega⟩, trivial⟩
      case measure => simp [intOf]; omega
/-- The reference's Bits. -/
theorem rbits_any (a : Option Addr) (c : Nat) (l : List Nat) (w : World) (hA : Arr w a c l) (hl : l.length ≤ 100000) :
    Calls Tryd.prog 41 #[.slice a l.length c] w fun e w' => e = .returned (.int .i64 (lenN (valL l) : Int)) ∧ Below w.heap.size w w' := by
  by_cases h0 : valL l = 0
  · have := rbits_nil a c l w hA hl h0
    rw [h0]; exact this
  · exact rbits_pos a c l w hA hl h0

theorem bit_mod (x k : Nat) : (((x : Int) / 2 ^ k).tmod 2 == 1) = x.testBit k := by
  have e : (x : Int) / 2 ^ k = ((x / 2 ^ k : Nat) : Int) := by simp
  rw [e, Nat.testBit_eq_decide_div_mod_eq]
  generalize x / 2 ^ k = y
  rw [Int.tmod_eq_emod_of_nonneg (by omega)]
  by_cases h1 : y % 2 = 1
  · rw [h1]; simp; omega
  · simp [h1]; omega
theorem World.setCell_alloc_at' (w : World) (cs : Array Value) (n : Nat) {v : Value} {t : TypeId} : (w.alloc (.cells cs t)).setCell ⟨w.heap.size, n, none⟩ v = w.alloc (.cells (cs.setIfInBounds n v) t) := World.setCell_alloc_at _ _ _ _ _ rfl
theorem rBit_neg (a : Option Addr) (n c : Nat) (i : Int) (w : World) (hi : i < 0) :
    Calls Tryd.prog 44 #[.slice a n c, .int .i64 i] w fun e w' => e = .returned (.bool false) ∧ w = w' := by
  have h1 : decide ((0 : Int) ≤ i) = false := by simp; omega
  go_enter Tryd.func44, Tryd.ntmps44
  go_wp2_with fail
  go_ret
  exact ⟨rfl, rfl⟩
theorem rBit_far (a : Option Addr) (n c i : Nat) (w : World) (hi : n ≤ i / 64) (hi2 : i ≤ 9223372036854775807) :
    Calls Tryd.prog 44 #[.slice a n c, .int .i64 (i : Int)] w fun e w' => e = .returned (.bool false) ∧ w = w' := by
  have h1 : decide ((0 : Int) ≤ (i : Int)) = true := by simp
  have h2 : decide ((i : Int) / 64 < (n : Int)) = false := by simp; omega
  go_enter Tryd.func44, Tryd.ntmps44
  go_wp2_with fail
  go_ret
  exact ⟨rfl, rfl⟩
theorem rBit_near (b off n c i x : Nat) (w : World) (hi : i / 64 < n) (hi2 : i ≤ 9223372036854775807) (hc : w.cell? ⟨b, off + i / 64, none⟩ = some (.int .u64 (x : Int))) (hx : x < 18446744073709551616) :
    Calls Tryd.prog 44 #[.slice (some ⟨b, off, none⟩) n c, .int .i64 (i : Int)] w fun e w' => e = .returned (.bool (x.testBit (i % 64))) ∧ w = w' := by
  have h1 : decide ((0 : Int) ≤ (i : Int)) = true := by simp
  have h2 : decide ((i : Int) / 64 < (n : Int)) = true := by simp; omega
  have h3 : (0 : Int) ≤ (i : Int) % 64 := by omega
  have h4 : (i : Int) % 64 < 64 := by omega
  go_enter Tryd.func44, Tryd.ntmps44
  go_wp2_with fail
  go_ret
  exact ⟨ret_bool (bit_mod x (i % 64)), rfl⟩
/-- The reference's Bit. -/
theorem rBit_any (a : Option Addr) (c : Nat) (i : Int) (l : List Nat) (w : World) (hA : Arr w a c l) (hi : i ≤ 9223372036854775807) :
    Calls Tryd.prog 44 #[.slice a l.length c, .int .i64 i] w fun e w' => e = .returned (.bool (bitB (valL l) i)) ∧ w = w' := by
  by_cases h0 : i < 0
  · have e : bitB (valL l) i = false := by unfold bitB; simp; omega
    rw [e]
    exact rBit_neg a _ c i w h0
  · obtain ⟨k, rfl⟩ := Int.eq_ofNat_of_zero_le (Int.not_lt.1 h0)
    have e : bitB (valL l) (k : Int) = (l.getD (k / 64) 0).testBit (k % 64) := by unfold bitB; rw [Int.toNat_natCast, testBit_valL l hA.2.2.1]; simp
    rw [e]
    by_cases h1 : k / 64 < l.length
    · obtain ⟨b, off, rfl, hc⟩ := hA.2.2.2 _ h1
      exact rBit_near b off _ c k _ w h1 (by omega) hc (hA.2.2.1.get _)
    · have e0 : l.getD (k / 64) 0 = 0 := by simp [List.getD, List.getElem?_eq_none (Nat.le_of_not_lt h1)]
      rw [e0, Nat.zero_testBit]
      exact rBit_far a _ c k w (by omega) (by omega)
theorem rpow2_any (k : Nat) (w : World) (hk : k ≤ 600000) :
    Calls Tryd.prog 38 #[.int .i64 (k : Int)] w fun e w' => ∃ v l, e = .returned v ∧ OwnL w' w.heap.size v l ∧ valL l = 2 ^ k ∧ Limbs l ∧ l.length = k / 64 + 1 ∧ Below w.heap.size w w' := by
  obtain ⟨n, hn⟩ : ∃ n, k / 64 = n := ⟨_, rfl⟩
  obtain ⟨r, hr⟩ : ∃ r, k % 64 = r := ⟨_, rfl⟩
  have en : (k : Int) / 64 = (n : Int) := by omega
  have er : (k : Int) % 64 = (r : Int) := by omega
  have hr64 : r < 64 := by omega
  have hmk := run_make1 n (by omega)
  have ho := owns_zeros w w.heap.size (n + 1) (Nat.le_refl _) (by omega)
  have hO : OwnL (w.alloc (.cells (zerosA (n + 1)) 36)) w.heap.size (.slice (some ⟨w.heap.size, 0, none⟩) (n + 1) (n + 1)) (List.replicate (n + 1) 0) := by unfold OwnL; rw [List.length_replicate]; exact ho
  have hc := OwnL.cell hO n 0 (by simp)
  have hf := OwnL.thaw hO n
  have Hk := Lib.hid (show k / 64 = n ∧ k % 64 = r from ⟨hn, hr⟩)
  clear hn hr ho
  have HO := Lib.hid hO
  clear hO
  have z1 : (0 : Int) ≤ (n : Int) := by omega
  have z2 : (n : Int) < (n : Int) + 1 := by omega
  go_enter Tryd.func38, Tryd.ntmps38
  go_wp2_with fail
  go_ret
  have h64 : (2 : Nat) ^ r < 18446744073709551616 := by
    have := Nat.pow_lt_pow_right (show 1 < 2 by decide) hr64
    exact this
  have ev : IntKind.u64.wrap ((2 : Int) ^ r) = ((2 ^ r : Nat) : Int) := by
    have e : (2 : Int) ^ r = ((2 ^ r : Nat) : Int) := by simp
    rw [e, IntKind.wrap_u64]
    exact Int.emod_eq_of_lt (Int.natCast_nonneg _) (Int.ofNat_lt.2 h64)
  have h := OwnL.store HO.out n (2 ^ r) _ ev
  rw [World.setCell_alloc_at' w (zerosA (n + 1)) n] at h
  refine ⟨_, _, rfl, h, ?_, (Limbs.replicate _).set _ _ h64, by simp [Hk.out.1], (Below.refl _ w).alloc (Nat.le_refl _) _⟩
  have hv := valL_set (List.replicate (n + 1) 0) n (2 ^ r) (by simp)
  rw [valL_replicate, Nat.zero_add] at hv
  have e0 : (List.replicate (n + 1) 0).getD n 0 = 0 := by simp [List.getD, List.getElem?_replicate]
  rw [e0, Nat.mul_zero, Nat.add_zero] at hv
  rw [hv, ← Hk.out.1, ← Hk.out.2, pow64]
/-- The reference's Shl. -/
theorem rshl_any (a : Option Addr) (c k : Nat) (l : List Nat) (w : World) (hA : Arr w a c l) (hl : l.length ≤ 9000) (hk : k ≤ 500000) :
    Calls Tryd.prog 37 #[.slice a l.length c, .int .i64 (k : Int)] w fun e w' => ∃ v, e = .returned v ∧ OwnL w' w.heap.size v (limbs (valL l * 2 ^ k)) ∧ Below w.heap.size w w' := by
  have hP := rpow2_any k w (by omega)
  have HA : Hid (∀ wr, Below w.heap.size w wr → Arr wr a c l) := Lib.hid fun wr h => hA.below h
  obtain ⟨n, hn⟩ : ∃ n, l.length = n := ⟨_, rfl⟩
  have Hn := Lib.hid hn
  rw [hn]
  clear hA hn
  go_enter Tryd.func37, Tryd.ntmps37
  go_wp2_with fail
  refine hP.mono ?_
  rintro e w1 ⟨v, p, rfl, ho, hv, hlp, hlen, hb⟩
  obtain ⟨b', d', rfl⟩ := OwnL.shape ho
  have hM := rmul_any a b' c d' l p w1 (HA.out w1 hb) (OwnL.arr' ho hlp) (by omega) (by omega)
  rw [hv, Hn.out] at hM
  have HB := Lib.hid hb
  clear hP ho hv hlp hlen hb
  go_wp2_with fail
  refine hM.mono ?_
  rintro e w2 ⟨v, rfl, ho, hb⟩
  have HO := Lib.hid (OwnL.weaken ho HB.out.size)
  have HB2 := Lib.hid (below_step HB.out hb)
  clear hM ho hb
  go_wp2_with fail
  go_ret
  exact ⟨v, rfl, HO.out, HB2.out⟩
set_option maxHeartbeats 1000000 in
/-- The reference's Zeros. -/
theorem rzeros_any (a : Option Addr) (c : Nat) (l : List Nat) (w : World) (hA : Arr w a c l) (hl : l.length ≤ 10000) :
    Calls Tryd.prog 42 #[.slice a l.length c] w fun e w' => e = .returned (.int .i64 (zerosN (valL l) : Int)) ∧ Below w.heap.size w w' := by
  have hBt := rbits_any a c l w hA (by omega)
  have HA : Hid (∀ wr, Below w.heap.size w wr → Arr wr a c l) := Lib.hid fun wr h => hA.below h
  have hLb : lenN (valL l) ≤ 64 * l.length := by
    have h := valL_lt hA.2.2.1
    exact lenN_le _ _ (by rwa [powB64] at h)
  obtain ⟨L, hL⟩ : ∃ L, lenN (valL l) = L := ⟨_, rfl⟩
  rw [hL] at hBt hLb
  obtain ⟨n, hn⟩ : ∃ n, l.length = n := ⟨_, rfl⟩
  have Hn := Lib.hid hn
  have HL := Lib.hid hL
  rw [hn] at hBt hLb hl ⊢
  have hLi : (L : Int) ≤ 640000 := by omega
  clear hA hn hL hLb
  go_enter Tryd.func42, Tryd.ntmps42
  go_wp2_with fail
  refine hBt.mono ?_
  rintro e w1 ⟨rfl, hb⟩
  have HB := Lib.hid hb
  clear hBt hb
  go_wp2_with fail
  go_loopw [4] (fun v wr => ∃ i : Nat, Hid (i ≤ L ∧ ∀ j, j < i → (valL l).testBit j = false) ∧ v = .int .i64 (i : Int) ∧ w1 = wr) (fun v _ => L - (intOf v).toNat)
  case atStart => exact ⟨0, Lib.hid ⟨Nat.zero_le _, fun j h => by omega⟩, rfl, rfl⟩
  case round =>
    obtain ⟨i, hz, rfl, rfl⟩ := hrel
    by_cases h1 : (i : Int) < (L : Int)
    · have hBi := rBit_any a c (i : Int) l w1 (HA.out w1 HB.out) (by omega)
      have e : bitB (valL l) (i : Int) = (valL l).testBit i := by unfold bitB; simp
      rw [e, Hn.out] at hBi
      obtain ⟨b, hb⟩ : ∃ b, (valL l).testBit i = b := ⟨_, rfl⟩
      rw [hb] at hBi
      have Hb := Lib.hid hb
      clear e hb
      cases b
      · go_wp2_with (go_at_call 44; (with_reducible refine hBi.mono ?_); rintro e w' ⟨rfl, rfl⟩)
        go_roundw
        case rel => exact ⟨i + 1, Lib.hid ⟨by omega, fun j hj => by
          by_cases e : j = i
          · rw [e]; exact Hb.out
          · exact hz.out.2 j (by omega)⟩, by go_num, trivial⟩
        case measure => simp [intOf]; omega
      · go_wp2_with (go_at_call 44; (with_reducible refine hBi.mono ?_); rintro e w' ⟨rfl, rfl⟩)
        go_ret
        exact ⟨ret_int' (by rw [zeros_bits _ i hz.out.2 Hb.out]), HB.out⟩
    · have hi : i = L := by have := hz.out.1; omega
      have hz0 : valL l = 0 := bits_none _ (fun j hj => hz.out.2 j (by rw [hi, ← HL.out]; exact hj))
      have HZ := Lib.hid hz0
      clear hi hz0
      go_wp2_with fail
      go_ret
      exact ⟨ret_int' (by rw [HZ.out, zerosN_zero]; rfl), HB.out⟩
end Go.Proofs.YtjfjkabmpiebpaaDoor
