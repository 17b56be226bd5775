/-
  NatY, NatZ, NatAa, NatBy: as one text.
-/
import Derived.Test.YtjlaadadbpffdaaGreatDoorNnU
set_option linter.unusedSimpArgs false
set_option linter.unusedVariables false
namespace Go.Plumb
theorem lenN_half (t : Nat) (h : t ≠ 0) : lenN t = lenN (t / 2) + 1 := by
  have h1 := lt_lenN (t / 2)
  by_cases h0 : t / 2 = 0
  · have : t = 1 := by omega
    subst this; rfl
  · have h2 := lenN_ge (t / 2) h0
    refine lenN_eq ?_ ?_
    · have e : lenN (t / 2) ≠ 0 := by intro e; rw [e] at h1; simp at h1; exact h0 (by omega)
      obtain ⟨j, hj⟩ : ∃ j, lenN (t / 2) = j + 1 := ⟨lenN (t / 2) - 1, by omega⟩
      rw [hj, Nat.add_sub_cancel] at h2
      rw [hj, Nat.pow_succ]; omega
    · rw [Nat.pow_succ]; omega
theorem zeros_bits (A i : Nat) (h : ∀ j, j < i → A.testBit j = false) (h1 : A.testBit i = true) : zerosN A = i := by
  refine zerosN_eq A i ?_ ?_
  · apply Nat.eq_of_testBit_eq
    intro j
    rw [Nat.testBit_mod_two_pow, Nat.zero_testBit]
    by_cases hj : j < i
    · simp [h j hj]
    · simp [hj]
  · rw [Nat.testBit_eq_decide_div_mod_eq] at h1
    simpa using h1
theorem bits_none (A : Nat) (h : ∀ j, j < lenN A → A.testBit j = false) : A = 0 := by
  apply Nat.eq_of_testBit_eq
  intro j
  rw [Nat.zero_testBit]
  by_cases hj : j < lenN A
  · exact h j hj
  · exact Nat.testBit_lt_two_pow (Nat.lt_of_lt_of_le (lt_lenN A) (Nat.pow_le_pow_right (by decide) (by omega)))
end Go.Plumb
namespace Go.Proofs.YtjlaadadbpffdaaGreatDoor
open Go.RowKit Go.Plumb

theorem rbits_nil (a : Option Addr) (c : Nat) (l : List Nat) (w : World) (hA : Arr w a c l) (hl : l.length ≤ 100000) (h0 : valL l = 0) :
    Calls Tryz.prog 83 #[.slice a l.length c] w fun e w' => e = .returned (.int .i64 0) ∧ Below w.heap.size w w' := by
  have hN := rnorm_any a c l w hA hl
  rw [h0, limbs_zero] at hN
  clear hA
  go_enter Tryz.func83, Tryz.ntmps83
  go_wp2_with fail
  refine hN.mono ?_
  rintro e w1 ⟨v, rfl, ho, hb⟩
  obtain ⟨a', c', rfl⟩ := OwnL.shape ho
  rw [List.length_nil]
  go_wp2_with fail
  go_ret
  exact ⟨rfl, hb⟩
set_option maxRecDepth 20000 in
set_option maxHeartbeats 1000000 in
theorem rbits_pos (a : Option Addr) (c : Nat) (l : List Nat) (w : World) (hA : Arr w a c l) (hl : l.length ≤ 100000) (h0 : valL l ≠ 0) :
    Calls Tryz.prog 83 #[.slice a l.length c] w fun e w' => e = .returned (.int .i64 (lenN (valL l) : Int)) ∧ Below w.heap.size w w' := by
  have hN := rnorm_any a c l w hA hl
  have hL := lenN_limbs _ h0
  have hll := limbs_length_le hA.2.2.1
  obtain ⟨L, hLL⟩ : ∃ L, lenN (valL l) = L := ⟨_, rfl⟩
  rw [hLL] at hL
  obtain ⟨la, hla⟩ : ∃ la, limbs (valL l) = la := ⟨_, rfl⟩
  have hp : 0 < la.length := List.length_pos_iff.2 fun e => h0 ((limbs_nil_iff _).1 (by rw [hla, e]))
  rw [hla] at hL hN hll
  obtain ⟨n, hn⟩ : ∃ n, la.length = n := ⟨_, rfl⟩
  obtain ⟨t, ht⟩ : ∃ t, la.getD (n - 1) 0 = t := ⟨_, rfl⟩
  have htl : t < 18446744073709551616 := by rw [← ht, ← hla]; exact (limbs_limbs _).get _
  rw [hn] at hp hll
  rw [hn, ht] at hL
  have HL := Lib.hid hL
  have HLL := Lib.hid hLL
  have Hn := Lib.hid hn
  have Ht := Lib.hid ht
  have Htl := Lib.hid htl
  have Hlim : Hid (Limbs la) := Lib.hid (by rw [← hla]; exact limbs_limbs _)
  have z1 : ((n : Int) == 0) = false := by simp; omega
  have z2 : (0 : Int) ≤ (n : Int) - 1 := by omega
  have z3 : (n : Int) - 1 < (n : Int) := by omega
  have z4 : ((n : Int) - 1).toNat = n - 1 := by omega
  have z5 : (n : Int) ≤ 100000 := by omega
  have hlt64 : lenN t ≤ 64 := lenN_le t 64 htl
  have Hlt := Lib.hid hlt64
  clear hA h0 hla hn ht hL hLL hll htl hlt64
  go_enter Tryz.func83, Tryz.ntmps83
  go_wp2_with fail
  refine hN.mono ?_
  rintro e w1 ⟨v, rfl, ho, hb⟩
  obtain ⟨a', c', rfl⟩ := OwnL.shape ho
  have harr := OwnL.arr' ho Hlim.out
  obtain ⟨q, o, e, hc⟩ := harr.2.2.2 (n - 1) (by rw [Hn.out]; omega)
  subst e
  rw [Ht.out] at hc
  rw [Hn.out]
  have HB := Lib.hid hb
  clear hN ho harr hb
  go_wp2_with fail
  go_loopw [3, 4] (fun u v wr => ∃ x y : Nat, u = .int .i64 (x : Int) ∧ v = .int .u64 (y : Int) ∧ Hid (x + lenN y = L ∧ y ≤ t) ∧ w1 = wr) (fun _ v _ => (intOf v).toNat)
  case atStart => exact ⟨64 * (n - 1), t, by go_num, rfl, Lib.hid ⟨HL.out.symm, Nat.le_refl _⟩, rfl⟩
  case round =>
    obtain ⟨x, y, rfl, rfl, hxy, rfl⟩ := hrel
    by_cases h0 : y = 0
    · subst h0
      have hx : x = L := by have h := hxy.out.1; rw [show lenN 0 = 0 from rfl] at h; omega
      have HX := Lib.hid hx
      clear hx
      go_wp2_with fail
      go_ret
      exact ⟨ret_int' (by rw [HX.out, HLL.out]), HB.out⟩
    · have hposN : 0 < y := by omega
      have hd : decide ((0 : Int) < (y : Int)) = true := by simp; omega
      have hyl : (y : Int) < 18446744073709551616 := by have := hxy.out.2; have := Htl.out; omega
      have hxl : (x : Int) ≤ 100000000 := by have h1 := hxy.out.1; have h2 := HL.out; have h3 := Hlt.out; omega
      have HY := Lib.hid h0
      clear h0 z1 z2 z3 z4 z5 hp
      go_wp2_with fail
      go_roundw
      case rel => exact ⟨x + 1, y / 2, by go_num, by go_num, Lib.hid ⟨by have h := hxy.out.1; rw [lenN_half y HY.out] at h; omega, by have := hxy.out.2; omega⟩, trivial⟩
      case measure => simp [intOf]; omega
/-- The reference's Bits. -/
theorem rbits_any (a : Option Addr) (c : Nat) (l : List Nat) (w : World) (hA : Arr w a c l) (hl : l.length ≤ 100000) :
    Calls Tryz.prog 83 #[.slice a l.length c] w fun e w' => e = .returned (.int .i64 (lenN (valL l) : Int)) ∧ Below w.heap.size w w' := by
  by_cases h0 : valL l = 0
  · have := rbits_nil a c l w hA hl h0
    rw [h0]; exact this
  · exact rbits_pos a c l w hA hl h0

theorem bit_mod (x k : Nat) : (((x : Int) / 2 ^ k).tmod 2 == 1) = x.testBit k := by
  have e : (x : Int) / 2 ^ k = ((x / 2 ^ k : Nat) : Int) := by simp
  rw [e, Nat.testBit_eq_decide_div_mod_eq]
  generalize x / 2 ^ k = y
  rw [Int.tmod_eq_emod_of_nonneg (by omega)]
  by_cases h1 : y % 2 = 1
  · rw [h1]; simp; omega
  · simp [h1]; omega
theorem World.setCell_alloc_at' (w : World) (cs : Array Value) (n : Nat) {v : Value} {t : TypeId} : (w.alloc (.cells cs t)).setCell ⟨w.heap.size, n, none⟩ v = w.alloc (.cells (cs.setIfInBounds n v) t) := World.setCell_alloc_at _ _ _ _ _ rfl
theorem rBit_neg (a : Option Addr) (n c : Nat) (i : Int) (w : World) (hi : i < 0) :
    Calls Tryz.prog 141 #[.slice a n c, .int .i64 i] w fun e w' => e = .returned (.bool false) ∧ w = w' := by
  have h1 : decide ((0 : Int) ≤ i) = false := by simp; omega
  go_enter Tryz.func141, Tryz.ntmps141
  go_wp2_with fail
  go_ret
  exact ⟨rfl, rfl⟩
theorem rBit_far (a : Option Addr) (n c i : Nat) (w : World) (hi : n ≤ i / 64) (hi2 : i ≤ 9223372036854775807) :
    Calls Tryz.prog 141 #[.slice a n c, .int .i64 (i : Int)] w fun e w' => e = .returned (.bool false) ∧ w = w' := by
  have h1 : decide ((0 : Int) ≤ (i : Int)) = true := by simp
  have h2 : decide ((i : Int) / 64 < (n : Int)) = false := by simp; omega
  go_enter Tryz.func141, Tryz.ntmps141
  go_wp2_with fail
  go_ret
  exact ⟨rfl, rfl⟩
theorem rBit_near (b off n c i x : Nat) (w : World) (hi : i / 64 < n) (hi2 : i ≤ 9223372036854775807) (hc : w.cell? ⟨b, off + i / 64, none⟩ = some (.int .u64 (x : Int))) (hx : x < 18446744073709551616) :
    Calls Tryz.prog 141 #[.slice (some ⟨b, off, none⟩) n c, .int .i64 (i : Int)] w fun e w' => e = .returned (.bool (x.testBit (i % 64))) ∧ w = w' := by
  have h1 : decide ((0 : Int) ≤ (i : Int)) = true := by simp
  have h2 : decide ((i : Int) / 64 < (n : Int)) = true := by simp; omega
  have h3 : (0 : Int) ≤ (i : Int) % 64 := by omega
  have h4 : (i : Int) % 64 < 64 := by omega
  go_enter Tryz.func141, Tryz.ntmps141
  go_wp2_with fail
  go_ret
  exact ⟨ret_bool (bit_mod x (i % 64)), rfl⟩
/-- The reference's Bit. -/
theorem rBit_any (a : Option Addr) (c : Nat) (i : Int) (l : List Nat) (w : World) (hA : Arr w a c l) (hi : i ≤ 9223372036854775807) :
    Calls Tryz.prog 141 #[.slice a l.length c, .int .i64 i] w fun e w' => e = .returned (.bool (bitB (valL l) i)) ∧ w = w' := by
  by_cases h0 : i < 0
  · have e : bitB (valL l) i = false := by unfold bitB; simp; omega
    rw [e]
    exact rBit_neg a _ c i w h0
  · obtain ⟨k, rfl⟩ := Int.eq_ofNat_of_zero_le (Int.not_lt.1 h0)
    have e : bitB (valL l) (k : Int) = (l.getD (k / 64) 0).testBit (k % 64) := by unfold bitB; rw [Int.toNat_natCast, testBit_valL l hA.2.2.1]; simp
    rw [e]
    by_cases h1 : k / 64 < l.length
    · obtain ⟨b, off, rfl, hc⟩ := hA.2.2.2 _ h1
      exact rBit_near b off _ c k _ w h1 (by omega) hc (hA.2.2.1.get _)
    · have e0 : l.getD (k / 64) 0 = 0 := by simp [List.getD, List.getElem?_eq_none (Nat.le_of_not_lt h1)]
      rw [e0, Nat.zero_testBit]
      exact rBit_far a _ c k w (by omega) (by omega)
theorem rpow2_any (k : Nat) (w : World) (hk : k ≤ 600000) :
    Calls Tryz.prog 89 #[.int .i64 (k : Int)] w fun e w' => ∃ v l, e = .returned v ∧ OwnL w' w.heap.size v l ∧ valL l = 2 ^ k ∧ Limbs l ∧ l.length = k / 64 + 1 ∧ Below w.heap.size w w' := by
  obtain ⟨n, hn⟩ : ∃ n, k / 64 = n := ⟨_, rfl⟩
  obtain ⟨r, hr⟩ : ∃ r, k % 64 = r := ⟨_, rfl⟩
  have en : (k : Int) / 64 = (n : Int) := by omega
  have er : (k : Int) % 64 = (r : Int) := by omega
  have hr64 : r < 64 := by omega
  have hmk := run_make1 n (by omega)
  have ho := owns_zeros w w.heap.size (n + 1) (Nat.le_refl _) (by omega)
  have hO : OwnL (w.alloc (.cells (zerosA (n + 1)) 31)) w.heap.size (.slice (some ⟨w.heap.size, 0, none⟩) (n + 1) (n + 1)) (List.replicate (n + 1) 0) := by unfold OwnL; rw [List.length_replicate]; exact ho
  have hc := OwnL.cell hO n 0 (by simp)
  have hf := OwnL.thaw hO n
  have Hk := Lib.hid (show k / 64 = n ∧ k % 64 = r from ⟨hn, hr⟩)
  clear hn hr ho
  have HO := Lib.hid hO
  clear hO
  have z1 : (0 : Int) ≤ (n : Int) := by omega
  have z2 : (n : Int) < (n : Int) + 1 := by omega
  go_enter Tryz.func89, Tryz.ntmps89
  go_wp2_with fail
  go_ret
  have h64 : (2 : Nat) ^ r < 18446744073709551616 := by
    have := Nat.pow_lt_pow_right (show 1 < 2 by decide) hr64
    exact this
  have ev : IntKind.u64.wrap ((2 : Int) ^ r) = ((2 ^ r : Nat) : Int) := by
    have e : (2 : Int) ^ r = ((2 ^ r : Nat) : Int) := by simp
    rw [e, IntKind.wrap_u64]
    exact Int.emod_eq_of_lt (Int.natCast_nonneg _) (Int.ofNat_lt.2 h64)
  have h := OwnL.store HO.out n (2 ^ r) _ ev
  rw [World.setCell_alloc_at' w (zerosA (n + 1)) n] at h
  refine ⟨_, _, rfl, h, ?_, (Limbs.replicate _).set _ _ h64, by simp [Hk.out.1], (Below.refl _ w).alloc (Nat.le_refl _) _⟩
  have hv := valL_set (List.replicate (n + 1) 0) n (2 ^ r) (by simp)
  rw [valL_replicate, Nat.zero_add] at hv
  have e0 : (List.replicate (n + 1) 0).getD n 0 = 0 := by simp [List.getD, List.getElem?_replicate]
  rw [e0, Nat.mul_zero, Nat.add_zero] at hv
  rw [hv, ← Hk.out.1, ← Hk.out.2, pow64]
/-- The reference's Shl. -/
theorem rshl_any (a : Option Addr) (c k : Nat) (l : List Nat) (w : World) (hA : Arr w a c l) (hl : l.length ≤ 9000) (hk : k ≤ 500000) :
    Calls Tryz.prog 85 #[.slice a l.length c, .int .i64 (k : Int)] w fun e w' => ∃ v, e = .returned v ∧ OwnL w' w.heap.size v (limbs (valL l * 2 ^ k)) ∧ Below w.heap.size w w' := by
  have hP := rpow2_any k w (by omega)
  have HA : Hid (∀ wr, Below w.heap.size w wr → Arr wr a c l) := Lib.hid fun wr h => hA.below h
  obtain ⟨n, hn⟩ : ∃ n, l.length = n := ⟨_, rfl⟩
  have Hn := Lib.hid hn
  rw [hn]
  clear hA hn
  go_enter Tryz.func85, Tryz.ntmps85
  go_wp2_with fail
  refine hP.mono ?_
  rintro e w1 ⟨v, p, rfl, ho, hv, hlp, hlen, hb⟩
  obtain ⟨b', d', rfl⟩ := OwnL.shape ho
  have hM := rmul_any a b' c d' l p w1 (HA.out w1 hb) (OwnL.arr' ho hlp) (by omega) (by omega)
  rw [hv, Hn.out] at hM
  have HB := Lib.hid hb
  clear hP ho hv hlp hlen hb
  go_wp2_with fail
  refine hM.mono ?_
  rintro e w2 ⟨v, rfl, ho, hb⟩
  have HO := Lib.hid (OwnL.weaken ho HB.out.size)
  have HB2 := Lib.hid (below_step HB.out hb)
  clear hM ho hb
  go_wp2_with fail
  go_ret
  exact ⟨v, rfl, HO.out, HB2.out⟩
set_option maxHeartbeats 1000000 in
/-- The reference's Zeros. -/
theorem rzeros_any (a : Option Addr) (c : Nat) (l : List Nat) (w : World) (hA : Arr w a c l) (hl : l.length ≤ 10000) :
    Calls Tryz.prog 139 #[.slice a l.length c] w fun e w' => e = .returned (.int .i64 (zerosN (valL l) : Int)) ∧ Below w.heap.size w w' := by
  have hBt := rbits_any a c l w hA (by omega)
  have HA : Hid (∀ wr, Below w.heap.size w wr → Arr wr a c l) := Lib.hid fun wr h => hA.below h
  have hLb : lenN (valL l) ≤ 64 * l.length := by
    have h := valL_lt hA.2.2.1
    exact lenN_le _ _ (by rwa [powB64] at h)
  obtain ⟨L, hL⟩ : ∃ L, lenN (valL l) = L := ⟨_, rfl⟩
  rw [hL] at hBt hLb
  obtain ⟨n, hn⟩ : ∃ n, l.length = n := ⟨_, rfl⟩
  have Hn := Lib.hid hn
  have HL := Lib.hid hL
  rw [hn] at hBt hLb hl ⊢
  have hLi : (L : Int) ≤ 640000 := by omega
  clear hA hn hL hLb
  go_enter Tryz.func139, Tryz.ntmps139
  go_wp2_with fail
  refine hBt.mono ?_
  rintro e w1 ⟨rfl, hb⟩
  have HB := Lib.hid hb
  clear hBt hb
  go_wp2_with fail
  go_loopw [4] (fun v wr => ∃ i : Nat, Hid (i ≤ L ∧ ∀ j, j < i → (valL l).testBit j = false) ∧ v = .int .i64 (i : Int) ∧ w1 = wr) (fun v _ => L - (intOf v).toNat)
  case atStart => exact ⟨0, Lib.hid ⟨Nat.zero_le _, fun j h => by omega⟩, rfl, rfl⟩
  case round =>
    obtain ⟨i, hz, rfl, rfl⟩ := hrel
    by_cases h1 : (i : Int) < (L : Int)
    · have hBi := rBit_any a c (i : Int) l w1 (HA.out w1 HB.out) (by omega)
      have e : bitB (valL l) (i : Int) = (valL l).testBit i := by unfold bitB; simp
      rw [e, Hn.out] at hBi
      obtain ⟨b, hb⟩ : ∃ b, (valL l).testBit i = b := ⟨_, rfl⟩
      rw [hb] at hBi
      have Hb := Lib.hid hb
      clear e hb
      cases b
      · go_wp2_with (go_at_call 141; (with_reducible refine hBi.mono ?_); rintro e w' ⟨rfl, rfl⟩)
        go_roundw
        case rel => exact ⟨i + 1, Lib.hid ⟨by omega, fun j hj => by
          by_cases e : j = i
          · rw [e]; exact Hb.out
          · exact hz.out.2 j (by omega)⟩, by go_num, trivial⟩
        case measure => simp [intOf]; omega
      · go_wp2_with (go_at_call 141; (with_reducible refine hBi.mono ?_); rintro e w' ⟨rfl, rfl⟩)
        go_ret
        exact ⟨ret_int' (by rw [zeros_bits _ i hz.out.2 Hb.out]), HB.out⟩
    · have hi : i = L := by have := hz.out.1; omega
      have hz0 : valL l = 0 := bits_none _ (fun j hj => hz.out.2 j (by rw [hi, ← HL.out]; exact hj))
      have HZ := Lib.hid hz0
      clear hi hz0
      go_wp2_with fail
      go_ret
      exact ⟨ret_int' (by rw [HZ.out, zerosN_zero]; rfl), HB.out⟩
end Go.Proofs.YtjlaadadbpffdaaGreatDoor

namespace Go.Plumb
theorem mod_step (A i : Nat) : decide (A % 2 ^ (i + 1) ≠ 0) = (decide (A % 2 ^ i ≠ 0) || A.testBit i) := by
  rw [Nat.pow_succ, Nat.mod_mul, Nat.testBit_eq_decide_div_mod_eq]
  have hp := Nat.two_pow_pos i
  by_cases h0 : A % 2 ^ i = 0
  · rw [h0]
    by_cases h1 : A / 2 ^ i % 2 = 1
    · rw [h1]; simp
    · have : A / 2 ^ i % 2 = 0 := by omega
      rw [this]; simp
  · simp only [ne_eq, h0, not_false_eq_true, decide_true, Bool.true_or, decide_eq_true_eq]
    omega
theorem div_mod_step (A k j : Nat) : A / 2 ^ k % 2 ^ (j + 1) = A / 2 ^ k % 2 ^ j + 2 ^ j * (if A.testBit (k + j) then 1 else 0) := by
  rw [Nat.pow_succ, Nat.mod_mul, Nat.testBit_eq_decide_div_mod_eq, Nat.pow_add, Nat.div_div_eq_div_mul]
  congr 1
  by_cases h1 : A / (2 ^ k * 2 ^ j) % 2 = 1
  · simp [h1]
  · have : A / (2 ^ k * 2 ^ j) % 2 = 0 := by omega
    rw [this]; simp
theorem limb_lt (lo : List Nat) (j : Nat) (h : valL lo < 2 ^ j) (hd : j / 64 < lo.length) : lo.getD (j / 64) 0 < 2 ^ (j % 64) := by
  have h1 := valL_split lo (j / 64) (by omega)
  rw [valL_drop lo _ hd] at h1
  have h2 := pow64 j
  apply Nat.lt_of_not_le
  intro hle
  have h3 := Nat.mul_le_mul_left (18446744073709551616 ^ (j / 64)) hle
  rw [h2] at h3
  rw [Nat.mul_add] at h1
  omega
end Go.Plumb
namespace Go.Proofs.YtjlaadadbpffdaaGreatDoor
open Go.RowKit Go.Plumb

set_option maxHeartbeats 2000000 in
/-- The reference's Shr. -/
theorem rshr_any (a : Option Addr) (c k : Nat) (l : List Nat) (w : World) (hA : Arr w a c l) (hl : l.length ≤ 10000) (hk : k ≤ 9223372036854775807) :
    Calls Tryz.prog 140 #[.slice a l.length c, .int .i64 (k : Int)] w fun e w' => ∃ v, e = .returned (.tuple #[v, .bool (decide (valL l % 2 ^ k ≠ 0))]) ∧ OwnL w' w.heap.size v (limbs (valL l / 2 ^ k)) ∧ Below w.heap.size w w' := by
  have hBt := rbits_any a c l w hA (by omega)
  have HA : Hid (∀ wr, Below w.heap.size w wr → Arr wr a c l) := Lib.hid fun wr h => hA.below h
  have hLb : lenN (valL l) ≤ 64 * l.length := by
    have h := valL_lt hA.2.2.1
    exact lenN_le _ _ (by rwa [powB64] at h)
  obtain ⟨A, hAe⟩ : ∃ A, valL l = A := ⟨_, rfl⟩
  obtain ⟨L, hL⟩ : ∃ L, lenN (valL l) = L := ⟨_, rfl⟩
  rw [hL] at hBt hLb
  obtain ⟨n, hn⟩ : ∃ n, l.length = n := ⟨_, rfl⟩
  have Hn := Lib.hid hn
  have HAe := Lib.hid hAe
  have HL : Hid (lenN A = L) := Lib.hid (by rw [← hAe]; exact hL)
  rw [hn] at hBt hLb hl ⊢
  have hLi : (L : Int) ≤ 64 * (n : Int) := by omega
  have hni : (n : Int) ≤ 10000 := by omega
  have hki : (k : Int) ≤ 9223372036854775807 := by omega
  have hmk : ∀ w, Sem.run Tryz.prog ((Instr.makeSlice 22 (.int .i64 (n : Int)) (.int .i64 (n : Int)))) w = .ok (.slice (some ⟨w.heap.size, 0, none⟩) n n) (w.alloc (.cells (zerosA n) 31)) := fun w => by
    have := run_makeI (n : Int) (by omega) (by omega) w
    rwa [show ((n : Int)).toNat = n by omega] at this
  clear hA hn hL hLb hl hk hAe
  go_enter Tryz.func140, Tryz.ntmps140
  go_wp2_with fail
  refine hBt.mono ?_
  rintro e w1 ⟨rfl, hb⟩
  have HB := Lib.hid hb
  clear hBt hb
  go_wp2_with fail
  go_loopw [6, 8] (fun u v wr => ∃ (i : Nat) (bl : Bool), Hid (i ≤ L ∧ i ≤ k ∧ bl = decide (A % 2 ^ i ≠ 0)) ∧ v = .int .i64 (i : Int) ∧ u = .bool bl ∧ w1 = wr) (fun _ v _ => L - (intOf v).toNat)
  case atStart => exact ⟨0, false, Lib.hid ⟨Nat.zero_le _, Nat.zero_le _, by simp [Nat.mod_one]⟩, rfl, rfl, rfl⟩
  case round =>
    obtain ⟨i, bl, hz, rfl, rfl, rfl⟩ := hrel
    by_cases h1 : (i : Int) < (k : Int) ∧ (i : Int) < (L : Int)
    · obtain ⟨h2, h3⟩ := h1
      have z1 : decide ((i : Int) < (k : Int)) = true := by simp; omega
      have z2 : decide ((i : Int) < (L : Int)) = true := by simp; omega
      have hBi := rBit_any a c (i : Int) l w1 (HA.out w1 HB.out) (by omega)
      have e : bitB (valL l) (i : Int) = A.testBit i := by unfold bitB; rw [HAe.out]; simp
      rw [e, Hn.out] at hBi
      obtain ⟨b, hb⟩ : ∃ b, A.testBit i = b := ⟨_, rfl⟩
      rw [hb] at hBi
      have HS : Hid (decide (A % 2 ^ (i + 1) ≠ 0) = (bl || b)) := Lib.hid (by rw [mod_step, hz.out.2.2, hb])
      clear e hb
      cases bl
      · go_wp2_with (go_at_call 141; (with_reducible refine hBi.mono ?_); rintro e w' ⟨rfl, rfl⟩)
        go_roundw
        case rel => exact ⟨i + 1, b, Lib.hid ⟨by omega, by omega, by rw [HS.out]; rfl⟩, by go_num, rfl, trivial⟩
        case measure => simp [intOf]; omega
      · go_wp2_with (go_at_call 141; (with_reducible refine hBi.mono ?_); rintro e w' ⟨rfl, rfl⟩)
        go_roundw
        case rel => exact ⟨i + 1, true, Lib.hid ⟨by omega, by omega, by rw [HS.out]; rfl⟩, by go_num, rfl, trivial⟩
        case measure => simp [intOf]; omega
    · by_cases h2 : (L : Int) ≤ (k : Int)
      · have hiL : i = L := by have := hz.out; omega
        have HAlt : Hid (A < 2 ^ L) := Lib.hid (by rw [← HL.out]; exact lt_lenN A)
        have HP : Hid ((2 : Nat) ^ L ≤ 2 ^ k) := Lib.hid (Nat.pow_le_pow_right (by decide) (by omega))
        have Hbl : Hid (bl = decide (A % 2 ^ k ≠ 0)) := Lib.hid (by
          have h3 := HAlt.out
          have h4 := HP.out
          rw [hz.out.2.2, hiL, Nat.mod_eq_of_lt h3, Nat.mod_eq_of_lt (by omega)])
        have H0 : Hid (A / 2 ^ k = 0) := Lib.hid (Nat.div_eq_of_lt (by have h3 := HAlt.out; have h4 := HP.out; omega))
        have zz : (¬ (i < k)) ∨ (i < k ∧ ¬ (i < L)) := by omega
        have zN : decide (L ≤ k) = true := by simp; omega
        have zI : decide ((L : Int) ≤ (k : Int)) = true := by simp; omega
        have zL : L ≤ k := by omega
        clear h1 hiL h2
        rcases zz with z1 | ⟨z1, z2⟩
        all_goals go_wp2_with fail
        all_goals go_ret2
        all_goals exact ⟨_, by rw [HAe.out, ← Hbl.out]; rfl, by rw [HAe.out, H0.out, limbs_zero]; exact World.ownsRow_nil _ _ _ _, HB.out⟩
      · have hik : i = k := by have := hz.out; omega
        have z1 : ¬ (i < k) := by omega
        have z3 : decide ((L : Int) ≤ (k : Int)) = false := by simp; omega
        have hkL : (k : Int) < (L : Int) := by omega
        have zN : decide (L ≤ k) = false := by simp; omega
        have zL : ¬ (L ≤ k) := by omega
        have Hbl : Hid (bl = decide (A % 2 ^ k ≠ 0)) := Lib.hid (by rw [hz.out.2.2, hik])
        clear h1 h2 hik
        go_wp2_with fail
        go_loopw [10] (fun v wr => ∃ (i' j : Nat) (lo : List Nat), Hid (i' = k + j ∧ i' ≤ L ∧ lo.length = n ∧ Limbs lo ∧ valL lo = A / 2 ^ k % 2 ^ j) ∧ v = .int .i64 (i' : Int) ∧ Hid (OwnL wr w1.heap.size (.slice (some ⟨w1.heap.size, 0, none⟩) n n) lo) ∧ Hid (Below w1.heap.size w1 wr)) (fun v _ => L - (intOf v).toNat)
        case atStart =>
          have ho := owns_zeros w1 w1.heap.size n (Nat.le_refl _) (by omega)
          refine ⟨k, 0, List.replicate n 0, Lib.hid ⟨rfl, by omega, by simp, Limbs.replicate _, by rw [valL_replicate]; simp [Nat.mod_one]⟩, rfl, Lib.hid ?_, Lib.hid ((Below.refl _ _).alloc (Nat.le_refl _) _)⟩
          unfold OwnL
          rw [List.length_replicate]
          exact ho
        case round =>
          obtain ⟨i', j, lo, hS, rfl, hown, hB2⟩ := hrel
          by_cases h4 : (i' : Int) < (L : Int)
          · have hBi := rBit_any a c (i' : Int) l wr (HA.out wr (below_step HB.out hB2.out)) (by omega)
            have e : bitB (valL l) (i' : Int) = A.testBit i' := by unfold bitB; rw [HAe.out]; simp
            rw [e, Hn.out] at hBi
            obtain ⟨b, hb⟩ : ∃ b, A.testBit i' = b := ⟨_, rfl⟩
            rw [hb] at hBi
            have Hb := Lib.hid hb
            clear e hb
            cases b
            · go_wp2_with (go_at_call 141; (with_reducible refine hBi.mono ?_); rintro e w' ⟨rfl, rfl⟩)
              go_roundw
              case rel => exact ⟨i' + 1, j + 1, lo, Lib.hid ⟨by have := hS.out.1; omega, by omega, hS.out.2.2.1, hS.out.2.2.2.1, by rw [hS.out.2.2.2.2, div_mod_step, ← hS.out.1, Hb.out]; simp⟩, by go_num, hown, hB2⟩
              case measure => simp [intOf]; omega
            · obtain ⟨d, hd⟩ : ∃ d, j / 64 = d := ⟨_, rfl⟩
              obtain ⟨r, hr⟩ : ∃ r, j % 64 = r := ⟨_, rfl⟩
              have hij := hS.out.1
              have f0 : (i' : Int) - (k : Int) = (j : Int) := by omega
              have f1 : (j : Int) / 64 = (d : Int) := by omega
              have f2 : (j : Int) % 64 = (r : Int) := by omega
              have hr64 : r < 64 := by omega
              have hdn : (d : Int) < (n : Int) := by omega
              have hd0 : (0 : Int) ≤ (d : Int) := by omega
              have hvl : valL lo < 2 ^ j := by rw [hS.out.2.2.2.2]; exact Nat.mod_lt _ (Nat.two_pow_pos j)
              obtain ⟨x, hx⟩ : ∃ x, lo.getD d 0 = x := ⟨_, rfl⟩
              have hxr : x < 2 ^ r := by
                have h := limb_lt lo j hvl (by rw [hS.out.2.2.1]; omega)
                rw [hd, hr, hx] at h
                exact h
              have h64 : (2 : Nat) ^ r + 2 ^ r ≤ 18446744073709551616 := by
                have h := Nat.pow_le_pow_right (show 0 < 2 by decide) (show r + 1 ≤ 64 by omega)
                rw [Nat.pow_succ] at h
                have e64 : (2 : Nat) ^ 64 = 18446744073709551616 := by decide
                omega
              obtain ⟨p, hp⟩ : ∃ p, (2 : Nat) ^ r = p := ⟨_, rfl⟩
              have f3 : IntKind.u64.wrap ((2 : Int) ^ r) = (p : Int) := by
                have e : (2 : Int) ^ r = ((2 ^ r : Nat) : Int) := by simp
                rw [e, hp, IntKind.wrap_u64]
                rw [hp] at h64 hxr
                omega
              rw [hp] at h64 hxr
              obtain ⟨z, hz'⟩ : ∃ z, x + p = z := ⟨_, rfl⟩
              have f4 : (x : Int) + (p : Int) = (z : Int) := by omega
              have hzi : (z : Int) < 18446744073709551616 := by omega
              have hco : wr.cell? ⟨w1.heap.size, d, none⟩ = some (.int .u64 (x : Int)) := by
                have e2 := hS.out.2.2.1
                refine OwnL.cell hown.out d x ?_
                rw [List.getElem?_eq_getElem (by omega), ← hx]
                simp [List.getD, show d < lo.length by omega]
              have hfo := OwnL.thaw hown.out d
              have HN : Hid (valL (lo.set d z) = A / 2 ^ k % 2 ^ (j + 1) ∧ z < 18446744073709551616) := Lib.hid (by
                have hv := valL_set lo d z (by rw [hS.out.2.2.1]; omega)
                rw [hx, ← hz', Nat.mul_add] at hv
                rw [div_mod_step, ← hij, Hb.out, ← hS.out.2.2.2.2]
                have h2 := pow64 j
                rw [hd, hr, hp] at h2
                rw [← h2, ← hz']
                refine ⟨?_, by omega⟩
                simp only [if_true, Nat.mul_one]
                omega)
              clear hd hr hij hvl hx hxr h64 hp hz'
              go_wp2_with (go_at_call 141; (with_reducible refine hBi.mono ?_); rintro e w' ⟨rfl, rfl⟩)
              go_roundw
              case rel => exact ⟨i' + 1, j + 1, lo.set d z, Lib.hid ⟨by have := hS.out.1; omega, by omega, by rw [List.length_set]; exact hS.out.2.2.1, hS.out.2.2.2.1.set _ _ HN.out.2, HN.out.1⟩, by go_num, Lib.hid (OwnL.store hown.out d z _ rfl), Lib.hid (hB2.out.setCell (Nat.le_refl _) _)⟩
              case measure => simp [intOf]; omega
          · have hlast : valL lo = A / 2 ^ k := by
              have hiL : i' = L := by have := hS.out; omega
              rw [hS.out.2.2.2.2]
              apply Nat.mod_eq_of_lt
              rw [Nat.div_lt_iff_lt_mul (Nat.two_pow_pos k), ← Nat.pow_add, show j + k = L by have := hS.out.1; omega, ← HL.out]
              exact lt_lenN A
            have hN := rnorm_any _ _ _ wr (OwnL.arr' (by have h := hown.out; rw [← hS.out.2.2.1] at h; exact h) hS.out.2.2.2.1) (by rw [hS.out.2.2.1]; omega)
            rw [hlast, hS.out.2.2.1] at hN
            have HB9 := Lib.hid (below_step HB.out hB2.out)
            clear hlast hown
            go_wp2_with fail
            refine hN.mono ?_
            rintro e w10 ⟨v, rfl, ho, hb⟩
            have HO := Lib.hid (OwnL.weaken ho HB9.out.size)
            have HB10 := Lib.hid (below_step HB9.out hb)
            clear hN ho hb
            go_wp2_with fail
            go_ret2
            exact ⟨v, by rw [HAe.out, ← Hbl.out]; rfl, by rw [HAe.out]; exact HO.out, HB10.out⟩
end Go.Proofs.YtjlaadadbpffdaaGreatDoor

namespace Go.Plumb
theorem less_step (ds qs : List Nat) (k i x rest : Nat) (hk : k ≤ ds.length) (hi : k = i + 1) (hq : qs.length = ds.length - k) (hx : ds.getD i 0 = x) (hv : valH (ds.drop k) = 10 * valH qs + rest) :
    (ds.take k ++ qs).set i ((rest * 4294967296 + x) / 10) = ds.take i ++ ((rest * 4294967296 + x) / 10 :: qs) ∧ valH (ds.drop i) = 10 * valH ((rest * 4294967296 + x) / 10 :: qs) + (rest * 4294967296 + x) % 10 := by
  subst hi
  have hlt : i < ds.length := by omega
  have hxi : ds[i] = x := by rw [← hx]; simp [List.getD, hlt]
  constructor
  · rw [List.take_succ_eq_append_getElem hlt, List.append_assoc, List.set_append_right _ _ (by simp; omega)]
    simp [List.length_take, Nat.min_eq_left (Nat.le_of_lt hlt)]
  · rw [List.drop_eq_getElem_cons hlt, hxi]
    simp only [valH, hv]
    omega
end Go.Plumb
namespace Go.Proofs.YtjlaadadbpffdaaGreatDoor
open Go.RowKit Go.Plumb

end Go.Proofs.YtjlaadadbpffdaaGreatDoor

namespace Go.Plumb
def byteV (b : UInt8) : Value := .int .u8 (b.toNat : Int)
def digB (r : Nat) : UInt8 := UInt8.ofNat (48 + r)
/-- The decimal digits, lowest first. -/
def digs (n : Nat) : List UInt8 := if h : n = 0 then [] else digB (n % 10) :: digs (n / 10)
termination_by n
decreasing_by omega
theorem digs_zero : digs 0 = [] := by unfold digs; simp
theorem digs_pos {n : Nat} (h : n ≠ 0) : digs n = digB (n % 10) :: digs (n / 10) := by
  rw [digs]; simp [h]
theorem digs_length (m : Nat) : ∀ n, n < 10 ^ m → (digs n).length ≤ m := by
  induction m with
  | zero => intro n h; have : n = 0 := by simp at h; omega
            subst this; rw [digs_zero]; simp
  | succ m ih =>
    intro n h
    by_cases hn : n = 0
    · subst hn; rw [digs_zero]; simp
    · rw [digs_pos hn, List.length_cons]
      have := ih (n / 10) (by rw [Nat.pow_succ] at h; omega)
      omega
theorem digB_toNat {r : Nat} (h : r < 10) : (digB r).toNat = 48 + r := by
  unfold digB
  rw [UInt8.toNat_ofNat']
  omega
theorem byteV_digB {r : Nat} (h : r < 10) : byteV (digB r) = .int .u8 (48 + (r : Int)) := by
  unfold byteV; rw [digB_toNat h]; simp
theorem ten_pow (k : Nat) : (18446744073709551616 : Nat) ^ k ≤ 10 ^ (20 * k) := by
  rw [Nat.pow_mul]
  exact Nat.pow_le_pow_left (by decide) k
theorem digs_valL {l : List Nat} (h : Limbs l) : (digs (valL l)).length ≤ 20 * l.length :=
  digs_length _ _ (Nat.lt_of_lt_of_le (valL_lt h) (ten_pow _))
/-- The text of a number. -/
def textN (n : Nat) : List UInt8 := if n = 0 then [48] else (digs n).reverse
/-- The first i and the last i places turned. -/
def turnedAt (bs cs : List UInt8) (i : Nat) : Prop := cs.length = bs.length ∧ ∀ j, j < bs.length → cs[j]? = if j < i ∨ bs.length - i ≤ j then bs[bs.length - 1 - j]? else bs[j]?
theorem turned_start (bs : List UInt8) : turnedAt bs bs 0 := ⟨rfl, fun j hj => by simp; omega⟩
theorem turned_end {bs cs : List UInt8} {i : Nat} (h : turnedAt bs cs i) (hi : i = bs.length / 2) : cs = bs.reverse := by
  apply List.ext_getElem? 
  intro j
  by_cases hj : j < bs.length
  · rw [h.2 j hj, List.getElem?_reverse hj]
    split
    · rfl
    · congr 1; omega
  · rw [List.getElem?_eq_none (by rw [h.1]; omega), List.getElem?_eq_none (by simp; omega)]
theorem turned_step {bs cs : List UInt8} {i : Nat} (h : turnedAt bs cs i) (hi : i < bs.length / 2) :
    turnedAt bs ((cs.set i (cs.getD (bs.length - 1 - i) 0)).set (bs.length - 1 - i) (cs.getD i 0)) (i + 1) := by
  refine ⟨by simp [h.1], fun j hj => ?_⟩
  have hn := h.1
  have e1 : cs.getD i 0 = bs.getD i 0 := by
    have := h.2 i (by omega)
    rw [if_neg (by omega)] at this
    simp only [List.getD, this]
  have e2 : cs.getD (bs.length - 1 - i) 0 = bs.getD (bs.length - 1 - i) 0 := by
    have := h.2 (bs.length - 1 - i) (by omega)
    rw [if_neg (by omega)] at this
    simp only [List.getD, this]
  rw [e1, e2]
  by_cases h1 : j = bs.length - 1 - i
  · subst h1
    rw [List.getElem?_set_self (by simp; omega), if_pos (by omega), show bs.length - 1 - (bs.length - 1 - i) = i by omega, List.getElem?_eq_getElem (show i < bs.length by omega)]
    simp [List.getD, show i < bs.length by omega]
  · rw [List.getElem?_set_ne (by omega)]
    by_cases h2 : j = i
    · subst h2
      rw [List.getElem?_set_self (by omega), if_pos (by omega), List.getElem?_eq_getElem (show bs.length - 1 - j < bs.length by omega)]
      simp [List.getD, show bs.length - 1 - j < bs.length by omega]
    · rw [List.getElem?_set_ne (by omega), h.2 j hj]
      by_cases h3 : j < i ∨ bs.length - i ≤ j
      · rw [if_pos h3, if_pos (by omega)]
      · rw [if_neg h3, if_neg (by omega)]
end Go.Plumb
namespace Go.Proofs.YtjlaadadbpffdaaGreatDoor
open Go.RowKit Go.Plumb

theorem info_u8 : (Tryz.prog.info? 5).map (fun i => (i.zero, i.size, i.bytes)) = some (some (.int .u8 0), 1, 1) := by kernel_rfl
def OwnB (w : World) (B : Nat) (v : Value) (l : List UInt8) : Prop := w.ownsRow B 5 1 v l.length (l.map byteV)
theorem OwnB.later {w w' : World} {B : Nat} {v : Value} {l : List UInt8} (h : OwnB w B v l) (hb : Below w.heap.size w w') : OwnB w' B v l := by
  obtain ⟨hx, hn | ⟨g, cap, cur, e, hg, hh, rest⟩⟩ := h
  · exact ⟨hx, .inl hn⟩
  · refine ⟨hx, .inr ⟨g, cap, cur, e, hg, ?_, rest⟩⟩
    rw [hb.block g (Array.getElem?_eq_some_iff.1 hh).1]
    exact hh
theorem OwnB.shape {w : World} {B : Nat} {v : Value} {l : List UInt8} (h : OwnB w B v l) : ∃ a c, v = .slice a l.length c := by
  obtain ⟨_, ⟨rfl, h1⟩ | ⟨g, cap, cur, rfl, _⟩⟩ := h
  · exact ⟨none, 0, by rw [h1]⟩
  · exact ⟨_, _, rfl⟩
theorem OwnB.pos {w : World} {B : Nat} {v : Value} {l : List UInt8} (h : OwnB w B v l) (h0 : 0 < l.length) : ∃ g cap, v = .slice (some ⟨g, 0, none⟩) l.length cap ∧ B ≤ g ∧ g < w.heap.size ∧ cap ≤ maxLen ∧ l.length ≤ cap := by
  obtain ⟨_, ⟨rfl, h1⟩ | ⟨g, cap, cur, rfl, hg, hh, hn, hcap, hsz, htake⟩⟩ := h
  · omega
  · exact ⟨g, cap, rfl, hg, (Array.getElem?_eq_some_iff.1 hh).1, hcap, hn⟩
theorem OwnB.len {w : World} {B : Nat} {a : Option Addr} {n c : Nat} {l : List UInt8} (h : OwnB w B (.slice a n c) l) : n = l.length := by
  obtain ⟨_, ⟨e, h1⟩ | ⟨g, cap, cur, e, _⟩⟩ := h
  · simp only [Value.slice.injEq] at e; omega
  · simp only [Value.slice.injEq] at e; exact e.2.1
theorem OwnB.cell {w : World} {B : Nat} {g n c : Nat} {l : List UInt8} (h : OwnB w B (.slice (some ⟨g, 0, none⟩) n c) l) (j : Nat) (x : UInt8) (hj : l[j]? = some x) : w.cell? ⟨g, j, none⟩ = some (byteV x) := by
  have hn := (List.getElem?_eq_some_iff.1 hj).1
  obtain rfl := h.len
  unfold OwnB at h
  have h2 := World.ownsRow.cellAt h j (by omega)
  rw [h2, List.getElem?_map, hj]; rfl
theorem OwnB.thaw {w : World} {B : Nat} {g n c : Nat} {l : List UInt8} (h : OwnB w B (.slice (some ⟨g, 0, none⟩) n c) l) (j : Nat) : w.frozen? ⟨g, j, none⟩ = false := by
  obtain rfl := h.len
  unfold OwnB at h
  exact World.ownsRow.frozenAt h j
theorem OwnB.store {w : World} {B : Nat} {g n c : Nat} {l : List UInt8} (h : OwnB w B (.slice (some ⟨g, 0, none⟩) n c) l) (j : Nat) (x : UInt8) (v : Value) (hv : v = byteV x) : OwnB (w.setCell ⟨g, j, none⟩ v) B (.slice (some ⟨g, 0, none⟩) n c) (l.set j x) := by
  subst hv
  obtain rfl := h.len
  unfold OwnB at h
  have := (World.ownsRow.stored h j (byteV x)).1
  rw [← List.map_set] at this
  unfold OwnB
  rw [List.length_set]
  exact this
theorem ownB_snoc {w : World} {B : Nat} {v : Value} {l : List UInt8} {x : UInt8} (h : w.ownsRow B 5 1 v (l.length + 1) (l.map byteV ++ [byteV x])) : OwnB w B v (l ++ [x]) := by
  unfold OwnB
  rw [List.length_append, List.map_append]
  exact h
theorem belowB_snoc {w0 w w9 : World} {v : Value} {l : List UInt8} {o : Obj} (hB : Below w0.heap.size w0 w) (h : OwnB w w0.heap.size v l) (hg : (w.alloc o).grownBy w9 v.ownBlock) : Below w0.heap.size w0 w9 := by
  refine (hB.alloc hB.size _).grown hg (by have := hB.size; simp; omega) ?_
  intro q hq
  exact (World.ownsRow.lt (show w.ownsRow w0.heap.size 5 1 v l.length (l.map byteV) from h) q hq).1
/-- A row of bytes as a text. -/
theorem OwnB.text {w : World} {B : Nat} {v : Value} {l : List UInt8} (h : OwnB w B v l) : (convert 165 9 v).run Tryz.prog w = .ok (.string ⟨l.toArray⟩) w := by
  by_cases h0 : 0 < l.length
  · obtain ⟨g, cap, e, _, _, _, _⟩ := OwnB.pos h h0
    subst e
    exact run_convert_bytes_back (P := Tryz.prog) w 165 9 5 ⟨g, 0, none⟩ cap l Tryz.underlying165 Tryz.underlying5 Tryz.underlying9 (fun j hj => by
      rw [show (⟨g, 0, none⟩ : Addr).add j = ⟨g, j, none⟩ by (unfold Addr.add; split <;> simp_all)]
      exact OwnB.cell h j _ (List.getElem?_eq_getElem hj))
  · obtain rfl : l = [] := List.eq_nil_of_length_eq_zero (by omega)
    obtain ⟨_, ⟨rfl, h1⟩ | ⟨g, cap, cur, rfl, _⟩⟩ := h
    · rw [run_convert_bytes_string (P := Tryz.prog) w 165 9 5 none 0 0 Tryz.underlying165 Tryz.underlying5 Tryz.underlying9]
      simp [Conv.bytesToString, loadCells, Sem.run_bind, Sem.run_pure, Result.andThen]
      rfl
    · exact run_convert_bytes_back (P := Tryz.prog) w 165 9 5 ⟨g, 0, none⟩ cap [] Tryz.underlying165 Tryz.underlying5 Tryz.underlying9 (fun j hj => by cases hj)
end Go.Proofs.YtjlaadadbpffdaaGreatDoor
