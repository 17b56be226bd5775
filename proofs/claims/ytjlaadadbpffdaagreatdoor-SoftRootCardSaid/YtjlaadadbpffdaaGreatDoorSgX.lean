/-
  SgL, SgA, SgB, SgC, SgD: as one text.
-/
import Derived.Test.YtjlaadadbpffdaaGreatDoorSbA
import Derived.Test.YtjlaadadbpffdaaGreatDoorRbT
import Derived.Test.YtjlaadadbpffdaaGreatDoorDyT
import Derived.Deep.RegionHeld3
import Derived.Deep.RegionWith
set_option linter.unusedSimpArgs false
set_option linter.unusedVariables false
namespace Go.Plumb
/-- A step of the quotient: the rest so far doubled, with the next bit; then less the divisor, if it may be. -/
theorem divide_step (A B i t : Nat) (hB : 0 < B) (ht : (if A.testBit i then 1 else 0) = t) : A / 2 ^ i = 2 * (A / 2 ^ (i + 1)) + t ∧ t ≤ 1 ∧
    (A / 2 ^ i) / B = 2 * ((A / 2 ^ (i + 1)) / B) + (if B ≤ 2 * ((A / 2 ^ (i + 1)) % B) + t then 1 else 0) ∧
    (A / 2 ^ i) % B = (if B ≤ 2 * ((A / 2 ^ (i + 1)) % B) + t then 2 * ((A / 2 ^ (i + 1)) % B) + t - B else 2 * ((A / 2 ^ (i + 1)) % B) + t) := by
  have h0 : A / 2 ^ (i + 1) = A / 2 ^ i / 2 := by rw [Nat.pow_succ, Nat.div_div_eq_div_mul]
  have h1 : t = A / 2 ^ i % 2 := by
    rw [← ht, Nat.testBit_eq_decide_div_mod_eq]
    by_cases h : A / 2 ^ i % 2 = 1
    · rw [h]; rfl
    · have : A / 2 ^ i % 2 = 0 := by omega
      rw [this]; rfl
  generalize A / 2 ^ i = X at *
  have h2 : X = 2 * (X / 2) + t := by omega
  have h3 := Nat.div_add_mod (X / 2) B
  have h4 := Nat.mod_lt (X / 2) hB
  rw [h0]
  generalize X / 2 = Y at *
  generalize hq : Y / B = q at *
  generalize hr : Y % B = r at *
  have h5 : X = B * (2 * q) + (2 * r + t) := by rw [h2, ← h3]; rw [Nat.mul_add, Nat.mul_left_comm]; omega
  have ht1 : t ≤ 1 := by omega
  refine ⟨h2, ht1, ?_⟩
  by_cases hc : B ≤ 2 * r + t
  · rw [if_pos hc, if_pos hc]
    have h6 : X = B * (2 * q + 1) + (2 * r + t - B) := by rw [h5, Nat.mul_add, Nat.mul_one]; omega
    constructor
    · rw [h6, Nat.mul_add_div hB, Nat.div_eq_of_lt (by omega)]
    · rw [h6, Nat.mul_add_mod, Nat.mod_eq_of_lt (by omega)]
  · rw [if_neg hc, if_neg hc]
    constructor
    · rw [h5, Nat.mul_add_div hB, Nat.div_eq_of_lt (by omega)]
    · rw [h5, Nat.mul_add_mod, Nat.mod_eq_of_lt (by omega)]
/-- A bit laid into a list of limbs of which all lower bits, and this one, are nought. -/
theorem lay_bit (l : List Nat) (i : Nat) (hl : Limbs l) (hi : i / 64 < l.length) (hd : valL l % 2 ^ (i + 1) = 0) :
    l.getD (i / 64) 0 + 2 ^ (i % 64) < 18446744073709551616 ∧ valL (l.set (i / 64) (l.getD (i / 64) 0 + 2 ^ (i % 64))) = valL l + 2 ^ i := by
  have hs := valL_split l (i / 64) (by omega)
  have hd0 := valL_drop l (i / 64) hi
  have hx := hl.get (i / 64)
  have hT := valL_lt (hl.take (i / 64))
  rw [List.length_take, Nat.min_eq_left (by omega)] at hT
  have e1 : i + 1 = 64 * (i / 64) + (i % 64 + 1) := by omega
  have e2 : 2 ^ i = 18446744073709551616 ^ (i / 64) * 2 ^ (i % 64) := by
    rw [powB64, ← Nat.pow_add]; congr 1; omega
  generalize valL (l.drop (i / 64 + 1)) = Z at *
  generalize valL (l.take (i / 64)) = Tk at *
  have hset := valL_set l (i / 64) (l.getD (i / 64) 0 + 2 ^ (i % 64)) hi
  generalize hxe : l.getD (i / 64) 0 = x at *
  generalize hP : 18446744073709551616 ^ (i / 64) = P at *
  have hP0 : 0 < P := by rw [← hP]; exact Nat.pow_pos (by decide)
  have hk : i % 64 < 64 := Nat.mod_lt _ (by decide)
  generalize i % 64 = k at *
  rw [e1, Nat.pow_add, ← powB64, hP] at hd
  have h1 : valL l = Tk + P * (x + 18446744073709551616 * Z) := by rw [hs, hd0]
  have hT0 : Tk = 0 := by
    have h2 : valL l % P = 0 := by
      have h3 := Nat.mod_mul_right_mod (valL l) P (2 ^ (k + 1))
      rw [hd] at h3
      simpa using h3.symm
    rw [h1, Nat.add_mul_mod_self_left, Nat.mod_eq_of_lt hT] at h2
    exact h2
  have h4 : (x + 18446744073709551616 * Z) % 2 ^ (k + 1) = 0 := by
    rw [h1, hT0, Nat.zero_add, Nat.mul_mod_mul_left] at hd
    exact (Nat.mul_eq_zero.1 hd).resolve_left (by omega)
  have h5 : x % 2 ^ (k + 1) = 0 := by
    have h6 : 18446744073709551616 = 2 ^ (k + 1) * 2 ^ (63 - k) := by rw [← Nat.pow_add, show k + 1 + (63 - k) = 64 by omega]
    rw [h6, Nat.mul_assoc, Nat.add_mul_mod_self_left] at h4
    exact h4
  have h7 : x + 2 ^ k < 18446744073709551616 := by
    have h6 : 18446744073709551616 = 2 ^ (k + 1) * 2 ^ (63 - k) := by rw [← Nat.pow_add, show k + 1 + (63 - k) = 64 by omega]
    have h8 := Nat.div_add_mod x (2 ^ (k + 1))
    rw [h5, Nat.add_zero] at h8
    have h9 : x / 2 ^ (k + 1) < 2 ^ (63 - k) := by
      apply Nat.div_lt_of_lt_mul
      rw [← h6]; exact hx
    have h10 : 2 ^ (k + 1) * (x / 2 ^ (k + 1) + 1) ≤ 2 ^ (k + 1) * 2 ^ (63 - k) := Nat.mul_le_mul_left _ h9
    rw [Nat.mul_add, h8, Nat.mul_one, ← h6] at h10
    have h11 : 2 ^ k < 2 ^ (k + 1) := Nat.pow_lt_pow_right (by decide) (by omega)
    omega
  refine ⟨h7, ?_⟩
  rw [e2]
  rw [Nat.mul_add] at hset
  omega
/-- A step of the root: with the next bit, if its square may be. -/
theorem isq_step (M s i : Nat) (h1 : s = isqN M / 2 ^ (i + 1) * 2 ^ (i + 1)) : (if (s + 2 ^ i) * (s + 2 ^ i) ≤ M then s + 2 ^ i else s) = isqN M / 2 ^ i * 2 ^ i := by
  have hs := isqN_spec M
  generalize isqN M = R at *
  have h0 : R / 2 ^ (i + 1) = R / 2 ^ i / 2 := by rw [Nat.pow_succ, Nat.div_div_eq_div_mul]
  rw [h0, Nat.pow_succ] at h1
  have h2 := Nat.div_add_mod R (2 ^ i)
  have h3 := Nat.mod_lt R (Nat.pow_pos (n := i) (show 0 < 2 by decide))
  generalize hX : R / 2 ^ i = X at *
  generalize hm : R % 2 ^ i = m at *
  generalize hP : 2 ^ i = P at *
  have hle : ∀ t, t * t ≤ M ↔ t ≤ R := by
    intro t
    constructor
    · intro h
      apply Nat.le_of_not_lt
      intro hlt
      have : (R + 1) * (R + 1) ≤ t * t := Nat.mul_le_mul hlt hlt
      omega
    · intro h
      exact Nat.le_trans (Nat.mul_le_mul h h) hs.1
  have hs2 : s = P * (2 * (X / 2)) := by rw [h1, Nat.mul_comm, Nat.mul_comm P 2, Nat.mul_left_comm, Nat.mul_assoc]
  by_cases hb : X % 2 = 1
  · have e : X = 2 * (X / 2) + 1 := by omega
    have e2 : P * X = s + P := by rw [hs2]; conv => lhs; rw [e, Nat.mul_add, Nat.mul_one]
    rw [if_pos ((hle _).2 (by omega)), Nat.mul_comm X P, e2]
  · have e : X = 2 * (X / 2) := by omega
    have e2 : P * X = s := by rw [hs2]; conv => lhs; rw [e]
    rw [if_neg (fun h => by have := (hle _).1 h; omega), Nat.mul_comm X P, e2]
theorem isq_top (M k : Nat) (h : lenN M ≤ 2 * k) : isqN M / 2 ^ k * 2 ^ k = 0 := by
  have h1 : isqN M < 2 ^ k := by
    apply Nat.lt_of_not_le
    intro hle
    have h2 : 2 ^ k * 2 ^ k ≤ isqN M * isqN M := Nat.mul_le_mul hle hle
    have h3 := (isqN_spec M).1
    have h4 := lt_lenN M
    have h5 : 2 ^ lenN M ≤ 2 ^ (2 * k) := Nat.pow_le_pow_right (by decide) h
    rw [show 2 * k = k + k by omega, Nat.pow_add] at h5
    omega
  rw [Nat.div_eq_of_lt h1, Nat.zero_mul]
end Go.Plumb

namespace Go.Proofs.YtjlaadadbpffdaaGreatDoor
open Go.RowKit Go.Plumb
section
variable {w : World} {a b : Option Addr} {n c m d : Nat} {l k : List Nat}
theorem own_num' {B : Nat} (h : OwnL w B (.slice a n c) l) (hl : Limbs l) : Num w a n c l := ⟨h.len, OwnL.arr' h hl⟩
theorem radd_o (X B : Nat) (h1 : Num w a n c l) (h2 : Num w b m d k) (hX : valL l + valL k = X) (hl : l.length ≤ 10000) (hk : k.length ≤ 10000) (hB : B ≤ w.heap.size) :
    Calls Tryz.prog 88 #[.slice a n c, .slice b m d] w fun e w' => ∃ a' n' c', e = .returned (.slice a' n' c') ∧ OwnL w' B (.slice a' n' c') (limbs X) ∧ Below w.heap.size w w' := by
  obtain ⟨rfl, hA⟩ := h1
  obtain ⟨rfl, hA'⟩ := h2
  subst hX
  refine (radd_any a b c d l k w hA hA' hl hk).mono ?_
  rintro e w' ⟨v, rfl, ho, hb⟩
  obtain ⟨a', c', rfl⟩ := OwnL.shape ho
  exact ⟨a', _, c', rfl, OwnL.weaken ho hB, hb⟩
theorem rsub_o (X B : Nat) (h1 : Num w a n c l) (h2 : Num w b m d k) (hX : valL l - valL k = X) (hle : valL k ≤ valL l) (hl : l.length ≤ 10000) (hk : k.length ≤ 10000) (hB : B ≤ w.heap.size) :
    Calls Tryz.prog 113 #[.slice a n c, .slice b m d] w fun e w' => ∃ a' n' c', e = .returned (.slice a' n' c') ∧ OwnL w' B (.slice a' n' c') (limbs X) ∧ Below w.heap.size w w' := by
  obtain ⟨rfl, hA⟩ := h1
  obtain ⟨rfl, hA'⟩ := h2
  subst hX
  refine (rsub_any a b c d l k w hA hA' hl hk hle).mono ?_
  rintro e w' ⟨v, rfl, ho, hb⟩
  obtain ⟨a', c', rfl⟩ := OwnL.shape ho
  exact ⟨a', _, c', rfl, OwnL.weaken ho hB, hb⟩
theorem rcmp_v {M K : Nat} {z : Int} (h1 : Num w a n c l) (h2 : Num w b m d k) (v1 : valL l = M) (v2 : valL k = K) (hz : cmpN M K = z) (hl : l.length ≤ 10000) (hk : k.length ≤ 10000) :
    Calls Tryz.prog 90 #[.slice a n c, .slice b m d] w fun e w' => e = .returned (.int .i64 z) ∧ Below w.heap.size w w' := by
  obtain ⟨rfl, hA⟩ := h1
  obtain ⟨rfl, hA'⟩ := h2
  subst v1 v2 hz
  exact rcmp_any a b c d l k w hA hA' (by omega) (by omega)
theorem rbits_v {M N : Nat} (h1 : Num w a n c l) (v1 : valL l = M) (hN : lenN M = N) (hl : l.length ≤ 4000) :
    Calls Tryz.prog 83 #[.slice a n c] w fun e w' => e = .returned (.int .i64 (N : Int)) ∧ Below w.heap.size w w' := by
  subst v1 hN
  exact rbits_n h1 hl
/-- A row of one's own abides a store into a block below it. -/
theorem OwnL.aside {B g : Nat} {v : Value} (h : OwnL w B v l) (hg : g < B) (j : Nat) (x : Value) : OwnL (w.setCell ⟨g, j, none⟩ x) B v l :=
  OwnL.grown h (grownBy_setCellAt w g j x) (fun e => own_ne h hg e.symm)
set_option maxHeartbeats 4000000 in
set_option maxRecDepth 20000 in
theorem divide_any (A B : Nat) (h1 : Num w a n c l) (h2 : Num w b m d k) (v1 : valL l = A) (v2 : valL k = B) (h0 : B ≠ 0) (hl : l.length ≤ 3000) (hk : k.length ≤ 1000) :
    Calls Tryz.prog 84 #[.slice a n c, .slice b m d] w fun e w' => ∃ a' n' c', e = .returned (.tuple #[.slice a' n' c', .bool (decide (A % B ≠ 0))]) ∧ Num w' a' n' c' (limbs (A / B)) ∧ Below w.heap.size w w' := by
  obtain ⟨X, hX⟩ : ∃ X, A / B = X := ⟨_, rfl⟩
  obtain ⟨y, hy⟩ : ∃ y, decide (A % B ≠ 0) = y := ⟨_, rfl⟩
  rw [hX, hy]
  have HX := Lib.hid (And.intro hX hy)
  clear hX hy
  have hn := h1.1
  have hmk := run_make1 n (by omega)
  have hO : OwnL (w.alloc (.cells (zerosA (n + 1)) 31)) w.heap.size (.slice (some ⟨w.heap.size, 0, none⟩) (n + 1) (n + 1)) (List.replicate (n + 1) 0) := by unfold OwnL; rw [List.length_replicate]; exact owns_zeros w w.heap.size (n + 1) (Nat.le_refl _) (by omega)
  obtain ⟨L, hL⟩ : ∃ L, lenN A = L := ⟨_, rfl⟩
  have hLn : L ≤ 64 * n := by
    have h := valL_lt h1.limbs
    rw [v1, ← hn] at h
    rw [← hL]
    exact lenN_le _ _ (by rwa [powB64] at h)
  have hBits := fun w' (hb : Below w.heap.size w w') => rbits_v (h1.below hb) v1 hL (by omega)
  have HN : Hid (∀ w', Below w.heap.size w w' → Num w' a n c l ∧ Num w' b m d k) := Lib.hid fun w' h => ⟨h1.below h, h2.below h⟩
  have HBk : Hid ((limbs B).length ≤ 1000) := Lib.hid (by rw [← v2]; exact Nat.le_trans (len_of h2.limbs) hk)
  have HO := Lib.hid hO
  have HF : Hid (A < 2 ^ L ∧ L ≤ 64 * n ∧ n ≤ 3000 ∧ 0 < B ∧ valL l = A ∧ valL k = B ∧ l.length = n ∧ k.length ≤ 1000) := Lib.hid ⟨by rw [← hL]; exact lt_lenN A, hLn, by omega, by omega, v1, v2, hn.symm, hk⟩
  have hLi : (L : Int) ≤ 192000 := by omega
  have hni : (n : Int) ≤ 3000 := by omega
  clear hn hO hL hLn h1 h2 v1 v2 h0 hl hk
  go_enter Tryz.func84, Tryz.ntmps84
  go_wp2_with fail
  refine (hBits _ (by repeat' (first | exact Below.refl _ _ | refine below_alloc ?_ _))).mono ?_
  rintro e w1 ⟨rfl, hb⟩
  have HO1 := Lib.hid (OwnL.later HO.out hb)
  have hB1 := below_step (w0 := w) (by (repeat' (first | exact Below.refl _ _ | assumption | (refine below_alloc ?_ _) | (refine Below.setCell ?_ ?_ _) | (refine Below.drew ?_) | (refine below_drewN ?_ _))) <;> (first | (simp; done) | (simp; omega) | omega)) hb
  clear hb hBits HO
  go_wp2_with fail
  go_loopw [7, 8] (fun u v wr => ∃ (i : Nat) (xa : Option Addr) (xn xc : Nat) (lq : List Nat), Hid (i ≤ L) ∧ v = .int .i64 ((i : Int) - 1) ∧ u = .slice xa xn xc ∧ Hid (lq.length = n + 1 ∧ Limbs lq ∧ valL lq = A / 2 ^ i / B * 2 ^ i) ∧ Hid (OwnL wr w.heap.size (.slice (some ⟨w.heap.size, 0, none⟩) (n + 1) (n + 1)) lq) ∧ Hid (OwnL wr (w.heap.size + 1) (.slice xa xn xc) (limbs (A / 2 ^ i % B))) ∧ Hid (Below w.heap.size w wr)) (fun _ v _ => (intOf v + 1).toNat)
  case atStart =>
    have hz : A / 2 ^ L = 0 := Nat.div_eq_of_lt HF.out.1
    exact ⟨L, none, 0, 0, _, Lib.hid (Nat.le_refl _), by go_num, rfl, Lib.hid ⟨List.length_replicate .., Limbs.replicate _, by rw [hz, valL_replicate, Nat.zero_div, Nat.zero_mul]⟩, HO1, Lib.hid (by rw [hz, Nat.zero_mod, limbs_zero]; exact World.ownsRow_nil _ _ _ _), Lib.hid hB1⟩
  case round =>
    obtain ⟨i, xa, xn, xc, lq, hi, rfl, rfl, hQ, hOq, hOr, hB⟩ := hrel
    clear HO1 hB1
    by_cases hz : i = 0
    · subst hz
      have hq := hQ.out
      rw [Nat.pow_zero, Nat.div_one, Nat.mul_one] at hq
      have hr := hOr.out
      rw [Nat.pow_zero, Nat.div_one] at hr
      have hN := rnorm_n (own_num' hOq.out hq.2.1) (by have := HF.out.2.2.1; omega)
      rw [hq.2.2] at hN
      have hlr : decide (0 < xn) = decide (A % B ≠ 0) := by
        have h := hr.len
        by_cases h0 : A % B = 0
        · rw [h0, limbs_zero] at h
          rw [h, h0]
          rfl
        · have h1 : (limbs (A % B)).length ≠ 0 := fun h => h0 (limbs_nil.1 h)
          rw [decide_eq_true (show 0 < xn by omega), decide_eq_true h0]
      rw [HX.out.2] at hlr
      rw [HX.out.1] at hN
      clear hq hr hmk
      go_wp2_with fail
      refine hN.mono ?_
      rintro e w2 ⟨a2, n2, c2, rfl, N2, hb⟩
      clear hN
      go_wp2_with fail
      go_ret2
      exact ⟨a2, n2, c2, by simp [hlr], N2, below_step hB.out hb⟩
    · obtain ⟨j, rfl⟩ : ∃ j, i = j + 1 := ⟨i - 1, by omega⟩
      clear hz hmk
      obtain ⟨t, ht⟩ : ∃ t, (if A.testBit j then 1 else 0) = t := ⟨_, rfl⟩
      obtain ⟨d1, d2, d3, d4⟩ := divide_step A B j t HF.out.2.2.2.1 ht
      obtain ⟨R, hR⟩ : ∃ R, A / 2 ^ (j + 1) % B = R := ⟨_, rfl⟩
      obtain ⟨Q, hQe⟩ : ∃ Q, A / 2 ^ (j + 1) / B = Q := ⟨_, rfl⟩
      have hRB : R < B := by rw [← hR]; exact Nat.mod_lt _ HF.out.2.2.2.1
      rw [hR] at d3 d4
      rw [hQe] at d3
      have hOr' := hOr.out
      rw [hR] at hOr'
      have hQ' := hQ.out
      rw [hQe] at hQ'
      have hlR : ∀ x, x ≤ 2 * B → (limbs x).length ≤ 1001 := by
        intro x hx
        have h1 := HBk.out
        have h2 := lt_pow_length B
        apply length_limbs_le
        obtain ⟨q, hq⟩ : ∃ q, q = 1000 := ⟨_, rfl⟩
        rw [← hq] at h1
        have h3 : 18446744073709551616 ^ (limbs B).length ≤ 18446744073709551616 ^ q := Nat.pow_le_pow_right (by decide) h1
        rw [show 1001 = q + 1 by omega, Nat.pow_succ]
        generalize 18446744073709551616 ^ q = Z at *
        omega
      have hgj : j / 64 < lq.length := by have := HF.out.2.1; have := hi.out; omega
      obtain ⟨x, hx⟩ : ∃ x, lq.getD (j / 64) 0 = x := ⟨_, rfl⟩
      have hlay := lay_bit lq j hQ'.2.1 hgj (by rw [hQ'.2.2, Nat.mul_mod_left])
      rw [hx] at hlay
      obtain ⟨iq, hiq⟩ : ∃ q, j / 64 = q := ⟨_, rfl⟩
      obtain ⟨ir, hir⟩ : ∃ r, j % 64 = r := ⟨_, rfl⟩
      have en : (j : Int) / 64 = (iq : Int) := by omega
      have er : (j : Int) % 64 = (ir : Int) := by omega
      have hr64 : ir < 64 := by omega
      rw [hiq] at hx hlay hgj
      rw [hir] at hlay
      have hxl : x < 18446744073709551616 := by rw [← hx]; exact hQ'.2.1.get _
      -- LEAVES
      have hgW : w.heap.size + 1 ≤ wr.heap.size := OwnL.lt hOq.out
      have hA1 := fun W (hb : Below wr.heap.size wr W) => radd_o (2 * R) (w.heap.size + 1) (own_num' (OwnL.later hOr' hb) (limbs_limbs R)) (own_num' (OwnL.later hOr' hb) (limbs_limbs R)) (by rw [valL_limbs]; omega) (by have := hlR R (by omega); omega) (by have := hlR R (by omega); omega) (Nat.le_trans hgW hb.size)
      have hbit : ∀ tb, A.testBit j = tb → ∀ W, Below w.heap.size w W → Calls Tryz.prog 141 #[.slice a n c, .int .i64 (j : Int)] W fun e w' => e = .returned (.bool tb) ∧ W = w' := by
        intro tb htb W hb
        have h := rbit_n (j : Int) (HN.out W hb).1 (by have := hi.out; omega)
        have e : bitB (valL l) (j : Int) = tb := by rw [HF.out.2.2.2.2.1]; unfold bitB; rw [Int.toNat_natCast, htb]; simp
        rw [e] at h
        exact h
      obtain ⟨tb, htb⟩ : ∃ tb, A.testBit j = tb := ⟨_, rfl⟩
      have hbt := hbit tb htb
      obtain ⟨M, hM⟩ : ∃ M, 2 * R + t = M := ⟨_, rfl⟩
      rw [hM] at d3 d4
      obtain ⟨z, hz⟩ : ∃ z, cmpN M B = z := ⟨_, rfl⟩
      have hzz : (B ≤ M → 0 ≤ z) ∧ (M < B → z < 0) := by rw [← hz]; unfold cmpN; constructor <;> intro h <;> (repeat' split) <;> omega
      have hC := fun W xa xn xc (hb : Below w.heap.size w W) (h : OwnL W (w.heap.size + 1) (.slice xa xn xc) (limbs M)) => rcmp_v (own_num' h (limbs_limbs M)) (HN.out W hb).2 (valL_limbs M) HF.out.2.2.2.2.2.1 hz (by have := hlR M (by omega); omega) (by have := HF.out.2.2.2.2.2.2.2; omega)
      have hS := fun W xa xn xc (hle : B ≤ M) (hb : Below w.heap.size w W) (hg : w.heap.size + 1 ≤ W.heap.size) (h : OwnL W (w.heap.size + 1) (.slice xa xn xc) (limbs M)) => rsub_o (M - B) (w.heap.size + 1) (own_num' h (limbs_limbs M)) (HN.out W hb).2 (by rw [valL_limbs, HF.out.2.2.2.2.2.1]) (by rw [valL_limbs, HF.out.2.2.2.2.2.1]; exact hle) (by have := hlR M (by omega); omega) (by have := HF.out.2.2.2.2.2.2.2; omega) hg
      have hval : valL lq = Q * 2 ^ j * 2 := by rw [hQ'.2.2, Nat.pow_succ, Nat.mul_assoc]
      have hcell := OwnL.cell hOq.out iq x (by rw [← hx, List.getD, List.getElem?_eq_getElem hgj]; rfl)
      have hthaw := OwnL.thaw hOq.out iq
      have HQ := Lib.hid (And.intro hQ' hgj)
      have HD := Lib.hid (And.intro d3 d4)
      have HL := Lib.hid hlay
      have HV := Lib.hid hval
      have HR := Lib.hid hlR
      have z1 : (0 : Int) ≤ (iq : Int) := by omega
      have z2 : (iq : Int) < (n : Int) + 1 := by have := HQ.out.1.1; omega
      have HIJ := Lib.hid (And.intro hi.out (And.intro hx (And.intro hiq hir)))
      cases tb
      · rw [htb] at ht
        obtain rfl : t = 0 := by rw [← ht]; rfl
        have HRB := Lib.hid hRB
        clear hQ hOr hOr' hQ' hRB ht htb hlR hlay hval hgj d1 d2 d3 d4 hR hQe hbit hxl hz hx hi hiq hir hcell hthaw
        by_cases hge : B ≤ M
        · have hz0 : (0 : Int) ≤ z := hzz.1 hge
          clear hzz
          go_wp2_with fail
          refine (hA1 _ (by repeat' (first | exact Below.refl _ _ | refine below_alloc ?_ _))).mono ?_
          rintro e w2 ⟨a2, n2, c2, rfl, O2, hb⟩
          have HB2 := below_step hB.out hb
          have P2 := Lib.hid (OwnL.later hOq.out hb)
          have G2 := Nat.le_trans hgW hb.size
          have O2 := Lib.hid O2
          clear hb hA1
          go_wp2_with fail
          refine (hbt _ HB2).mono ?_
          rintro e w3 ⟨rfl, rfl⟩
          clear hbt
          rw [show 2 * R = M by omega] at O2
          go_wp2_with fail
          refine (hC _ _ _ _ HB2 O2.out).mono ?_
          rintro e w5 ⟨rfl, hb⟩
          have HB5 := below_step HB2 hb
          have P5 := Lib.hid (OwnL.later P2.out hb)
          have O5 := Lib.hid (OwnL.later O2.out hb)
          have G5 := Nat.le_trans G2 hb.size
          clear hb hC
          go_wp2_with fail
          refine (hS _ _ _ _ hge HB5 G5 O5.out).mono ?_
          rintro e w6 ⟨a6, n6, c6, rfl, O6, hb⟩
          have HB6 := below_step HB5 hb
          have P6 := Lib.hid (OwnL.later P5.out hb)
          have O6 := Lib.hid O6
          have hc6 := OwnL.cell P6.out iq x (by rw [← HIJ.out.2.1, List.getD, List.getElem?_eq_getElem HQ.out.2]; rfl)
          have hf6 := OwnL.thaw P6.out iq
          have h64 : 2 ^ ir < 18446744073709551616 := by have := HL.out.1; omega
          have f1 : IntKind.u64.wrap ((2 : Int) ^ ir) = ((2 ^ ir : Nat) : Int) := by
            have e : (2 : Int) ^ ir = ((2 ^ ir : Nat) : Int) := by simp
            rw [e, IntKind.wrap_u64]
            exact Int.emod_eq_of_lt (Int.natCast_nonneg _) (Int.ofNat_lt.2 h64)
          clear h64
          have hge9 := Lib.hid hge
          clear hb hS hge
          go_wp2_with fail
          go_roundw
          case rel =>
            refine ⟨j, a6, n6, c6, _, Lib.hid (by have := HIJ.out.1; omega), by go_num, rfl, Lib.hid ⟨by rw [List.length_set]; exact HQ.out.1.1, HQ.out.1.2.1.set iq _ HL.out.1, ?_⟩, Lib.hid (OwnL.store P6.out iq _ _ ?_), Lib.hid ?_, Lib.hid (HB6.setCell (Nat.le_refl _) _)⟩
            · rw [HL.out.2, HD.out.1, if_pos hge9.out, HV.out, Nat.add_mul, Nat.mul_assoc 2 Q]; omega
            · rw [IntKind.wrap_u64, show ((x : Int) + 2 ^ ir) = ((x + 2 ^ ir : Nat) : Int) by simp]; exact Int.emod_eq_of_lt (Int.natCast_nonneg _) (Int.ofNat_lt.2 HL.out.1)
            · refine OwnL.aside ?_ (Nat.lt_succ_self _) _ _
              rw [HD.out.2, if_pos hge9.out]
              exact O6.out
          case measure => simp [intOf] <;> omega
        · have hz0 : z < 0 := hzz.2 (by omega)
          clear hzz
          go_wp2_with fail
          refine (hA1 _ (by repeat' (first | exact Below.refl _ _ | refine below_alloc ?_ _))).mono ?_
          rintro e w2 ⟨a2, n2, c2, rfl, O2, hb⟩
          have HB2 := below_step hB.out hb
          have P2 := Lib.hid (OwnL.later hOq.out hb)
          have G2 := Nat.le_trans hgW hb.size
          have O2 := Lib.hid O2
          clear hb hA1
          go_wp2_with fail
          refine (hbt _ HB2).mono ?_
          rintro e w3 ⟨rfl, rfl⟩
          clear hbt
          rw [show 2 * R = M by omega] at O2
          go_wp2_with fail
          refine (hC _ _ _ _ HB2 O2.out).mono ?_
          rintro e w5 ⟨rfl, hb⟩
          have HB5 := below_step HB2 hb
          have P5 := Lib.hid (OwnL.later P2.out hb)
          have O5 := Lib.hid (OwnL.later O2.out hb)
          have G5 := Nat.le_trans G2 hb.size
          clear hb hC
          clear hS
          go_wp2_with fail
          go_roundw
          case rel =>
            refine ⟨j, _, _, _, lq, Lib.hid (by have := HIJ.out.1; omega), by go_num, rfl, Lib.hid ⟨HQ.out.1.1, HQ.out.1.2.1, ?_⟩, P5, Lib.hid ?_, Lib.hid HB5⟩
            · rw [HD.out.1, if_neg hge, HV.out]; simp only [Nat.add_zero]; rw [Nat.mul_comm 2 Q, Nat.mul_right_comm]
            · rw [HD.out.2, if_neg hge]
              exact O5.out
          case measure => simp [intOf] <;> omega
      · rw [htb] at ht
        obtain rfl : t = 1 := by rw [← ht]; rfl
        have HRB := Lib.hid hRB
        clear hQ hOr hOr' hQ' hRB ht htb hlR hlay hval hgj d1 d2 d3 d4 hR hQe hbit hxl hz hx hi hiq hir hcell hthaw
        by_cases hge : B ≤ M
        · have hz0 : (0 : Int) ≤ z := hzz.1 hge
          clear hzz
          go_wp2_with fail
          refine (hA1 _ (by repeat' (first | exact Below.refl _ _ | refine below_alloc ?_ _))).mono ?_
          rintro e w2 ⟨a2, n2, c2, rfl, O2, hb⟩
          have HB2 := below_step hB.out hb
          have P2 := Lib.hid (OwnL.later hOq.out hb)
          have G2 := Nat.le_trans hgW hb.size
          have O2 := Lib.hid O2
          clear hb hA1
          go_wp2_with fail
          refine (hbt _ HB2).mono ?_
          rintro e w3 ⟨rfl, rfl⟩
          clear hbt
          have hA2 := fun W (hb : Below w2.heap.size w2 W) => radd_o M (w.heap.size + 1) (own_num' (OwnL.later (OwnL.later O2.out hb) (below_alloc (Below.refl _ _) (.cells #[.int .u64 1] 31))) (limbs_limbs (2 * R))) (num_one (W := W) (g := W.heap.size) (x := 1) (t := 31) rfl (by decide)) (by rw [valL_limbs]; simp only [valL]; omega) (by have := HR.out (2 * R) (by have := HRB.out; omega); omega) (by decide) (by simp; have := hb.size; omega)
          go_wp2_with fail
          refine (hA2 _ (by repeat' (first | exact Below.refl _ _ | refine below_alloc ?_ _))).mono ?_
          rintro e w4 ⟨a4, n4, c4, rfl, O4, hb⟩
          have hb9 := below_step (below_alloc (Below.refl w2.heap.size w2) (.cells #[.int .u64 1] 31)) hb
          have HB4 := below_step HB2 hb9
          have P4 := Lib.hid (OwnL.later P2.out hb9)
          have G4 := Nat.le_trans G2 hb9.size
          have O4 := Lib.hid O4
          clear hb hb9 hA2
          go_wp2_with fail
          refine (hC _ _ _ _ HB4 O4.out).mono ?_
          rintro e w5 ⟨rfl, hb⟩
          have HB5 := below_step HB4 hb
          have P5 := Lib.hid (OwnL.later P4.out hb)
          have O5 := Lib.hid (OwnL.later O4.out hb)
          have G5 := Nat.le_trans G4 hb.size
          clear hb hC
          go_wp2_with fail
          refine (hS _ _ _ _ hge HB5 G5 O5.out).mono ?_
          rintro e w6 ⟨a6, n6, c6, rfl, O6, hb⟩
          have HB6 := below_step HB5 hb
          have P6 := Lib.hid (OwnL.later P5.out hb)
          have O6 := Lib.hid O6
          have hc6 := OwnL.cell P6.out iq x (by rw [← HIJ.out.2.1, List.getD, List.getElem?_eq_getElem HQ.out.2]; rfl)
          have hf6 := OwnL.thaw P6.out iq
          have h64 : 2 ^ ir < 18446744073709551616 := by have := HL.out.1; omega
          have f1 : IntKind.u64.wrap ((2 : Int) ^ ir) = ((2 ^ ir : Nat) : Int) := by
            have e : (2 : Int) ^ ir = ((2 ^ ir : Nat) : Int) := by simp
            rw [e, IntKind.wrap_u64]
            exact Int.emod_eq_of_lt (Int.natCast_nonneg _) (Int.ofNat_lt.2 h64)
          clear h64
          have hge9 := Lib.hid hge
          clear hb hS hge
          go_wp2_with fail
          go_roundw
          case rel =>
            refine ⟨j, a6, n6, c6, _, Lib.hid (by have := HIJ.out.1; omega), by go_num, rfl, Lib.hid ⟨by rw [List.length_set]; exact HQ.out.1.1, HQ.out.1.2.1.set iq _ HL.out.1, ?_⟩, Lib.hid (OwnL.store P6.out iq _ _ ?_), Lib.hid ?_, Lib.hid (HB6.setCell (Nat.le_refl _) _)⟩
            · rw [HL.out.2, HD.out.1, if_pos hge9.out, HV.out, Nat.add_mul, Nat.mul_assoc 2 Q]; omega
            · rw [IntKind.wrap_u64, show ((x : Int) + 2 ^ ir) = ((x + 2 ^ ir : Nat) : Int) by simp]; exact Int.emod_eq_of_lt (Int.natCast_nonneg _) (Int.ofNat_lt.2 HL.out.1)
            · refine OwnL.aside ?_ (Nat.lt_succ_self _) _ _
              rw [HD.out.2, if_pos hge9.out]
              exact O6.out
          case measure => simp [intOf] <;> omega
        · have hz0 : z < 0 := hzz.2 (by omega)
          clear hzz
          go_wp2_with fail
          refine (hA1 _ (by repeat' (first | exact Below.refl _ _ | refine below_alloc ?_ _))).mono ?_
          rintro e w2 ⟨a2, n2, c2, rfl, O2, hb⟩
          have HB2 := below_step hB.out hb
          have P2 := Lib.hid (OwnL.later hOq.out hb)
          have G2 := Nat.le_trans hgW hb.size
          have O2 := Lib.hid O2
          clear hb hA1
          go_wp2_with fail
          refine (hbt _ HB2).mono ?_
          rintro e w3 ⟨rfl, rfl⟩
          clear hbt
          have hA2 := fun W (hb : Below w2.heap.size w2 W) => radd_o M (w.heap.size + 1) (own_num' (OwnL.later (OwnL.later O2.out hb) (below_alloc (Below.refl _ _) (.cells #[.int .u64 1] 31))) (limbs_limbs (2 * R))) (num_one (W := W) (g := W.heap.size) (x := 1) (t := 31) rfl (by decide)) (by rw [valL_limbs]; simp only [valL]; omega) (by have := HR.out (2 * R) (by have := HRB.out; omega); omega) (by decide) (by simp; have := hb.size; omega)
          go_wp2_with fail
          refine (hA2 _ (by repeat' (first | exact Below.refl _ _ | refine below_alloc ?_ _))).mono ?_
          rintro e w4 ⟨a4, n4, c4, rfl, O4, hb⟩
          have hb9 := below_step (below_alloc (Below.refl w2.heap.size w2) (.cells #[.int .u64 1] 31)) hb
          have HB4 := below_step HB2 hb9
          have P4 := Lib.hid (OwnL.later P2.out hb9)
          have G4 := Nat.le_trans G2 hb9.size
          have O4 := Lib.hid O4
          clear hb hb9 hA2
          go_wp2_with fail
          refine (hC _ _ _ _ HB4 O4.out).mono ?_
          rintro e w5 ⟨rfl, hb⟩
          have HB5 := below_step HB4 hb
          have P5 := Lib.hid (OwnL.later P4.out hb)
          have O5 := Lib.hid (OwnL.later O4.out hb)
          have G5 := Nat.le_trans G4 hb.size
          clear hb hC
          clear hS
          go_wp2_with fail
          go_roundw
          case rel =>
            refine ⟨j, _, _, _, lq, Lib.hid (by have := HIJ.out.1; omega), by go_num, rfl, Lib.hid ⟨HQ.out.1.1, HQ.out.1.2.1, ?_⟩, P5, Lib.hid ?_, Lib.hid HB5⟩
            · rw [HD.out.1, if_neg hge, HV.out]; simp only [Nat.add_zero]; rw [Nat.mul_comm 2 Q, Nat.mul_right_comm]
            · rw [HD.out.2, if_neg hge]
              exact O5.out
          case measure => simp [intOf] <;> omega
end
end Go.Proofs.YtjlaadadbpffdaaGreatDoor

namespace Go.Plumb
theorem quo_bits70 {m n N1 N2 D : Nat} (hm : m ≠ 0) (hn : n ≠ 0) (h1 : lenN m = N1) (h2 : lenN n = N2) (hD : N2 - N1 = D) : 64 ≤ lenN (m * 2 ^ (D + 70) / n) := by
  have hx : 2 ^ (lenN m - 1) ≤ m := lenN_ge m hm
  have hy : n < 2 ^ lenN n := lt_lenN n
  have hp : 0 < lenN m := by unfold lenN; rw [if_neg hm]; omega
  have h3 : 2 ^ 63 ≤ m * 2 ^ (D + 70) / n := by
    rw [Nat.le_div_iff_mul_le (by omega)]
    refine Nat.le_trans (Nat.mul_le_mul_left _ (Nat.le_of_lt hy)) (Nat.le_trans ?_ (Nat.mul_le_mul_right _ hx))
    rw [← Nat.pow_add, ← Nat.pow_add]
    exact Nat.pow_le_pow_right (by decide) (by omega)
  apply Nat.le_of_not_lt
  intro hlt
  have h4 : m * 2 ^ (D + 70) / n < 2 ^ 63 := Nat.lt_of_lt_of_le (lt_lenN _) (Nat.pow_le_pow_right (by decide) (by omega))
  omega
end Go.Plumb
namespace Go.Proofs.YtjlaadadbpffdaaGreatDoor
open Go.RowKit Go.Plumb
section
variable {w : World} {a b : Option Addr} {n c m d : Nat} {l k : List Nat}
theorem divide_v {A B X : Nat} {y : Bool} (h1 : Num w a n c l) (h2 : Num w b m d k) (v1 : valL l = A) (v2 : valL k = B) (h0 : B ≠ 0) (hX : A / B = X) (hy : decide (A % B ≠ 0) = y) (hl : l.length ≤ 3000) (hk : k.length ≤ 1000) :
    Calls Tryz.prog 84 #[.slice a n c, .slice b m d] w fun e w' => ∃ a' n' c', e = .returned (.tuple #[.slice a' n' c', .bool y]) ∧ Num w' a' n' c' (limbs X) ∧ Below w.heap.size w w' := by
  subst hX hy
  exact divide_any A B h1 h2 v1 v2 h0 hl hk
theorem rshr_v {M X i : Nat} {L : Bool} {e : Int} (h1 : Num w a n c l) (v1 : valL l = M) (hX : M / 2 ^ i = X) (hL : decide (M % 2 ^ i ≠ 0) = L) (he : e = (i : Int)) (hl : l.length ≤ 4000) (hi : i ≤ 9223372036854775807) :
    Calls Tryz.prog 140 #[.slice a n c, .int .i64 e] w fun e w' => ∃ a' n' c', e = .returned (.tuple #[.slice a' n' c', .bool L]) ∧ Num w' a' n' c' (limbs X) ∧ Below w.heap.size w w' := by
  subst v1 hL he
  exact rshr_n X i h1 hX hl hi
theorem rshl_v {M X i : Nat} {e : Int} (h1 : Num w a n c l) (v1 : valL l = M) (hX : M * 2 ^ i = X) (he : e = (i : Int)) (hl : l.length ≤ 4000) (hi : i ≤ 500000) :
    Calls Tryz.prog 85 #[.slice a n c, .int .i64 e] w fun e w' => ∃ a' n' c', e = .returned (.slice a' n' c') ∧ Num w' a' n' c' (limbs X) ∧ Below w.heap.size w w' := by
  subst v1 he
  exact rshl_n X i h1 hX hl hi
set_option maxHeartbeats 2000000 in
theorem rround4_any (neg : Bool) (Q : Nat) (e : Int) (more : Bool) (h1 : Num w a n c (limbs Q)) (hQ : 64 ≤ lenN Q) (hl : (limbs Q).length ≤ 4000) (b0 : -1000000000 ≤ e) (b1 : e ≤ 1000000000) :
    Calls Tryz.prog 86 #[.bool neg, .slice a n c, .int .i64 e, .bool more] w fun z w' => z = .returned (.int .u64 ((roundN neg (2 * Q + more.toNat) (e - 1) : Nat) : Int)) ∧ Below w.heap.size w w' := by
  have hlen : lenN Q ≤ 64 * 4000 := lenN_of_len hl
  obtain ⟨N, hN⟩ : ∃ N, lenN Q = N := ⟨_, rfl⟩
  obtain ⟨D, hD⟩ : ∃ D, N - 64 = D := ⟨_, rfl⟩
  have hD0 : (N : Int) - 64 = (D : Int) := by omega
  obtain ⟨M, hM⟩ : ∃ M, Q / 2 ^ D = M := ⟨_, rfl⟩
  have hM1 : M < 18446744073709551616 := by
    rw [← hM]
    have := div_len Q D 64 (by omega)
    simpa using this
  have hM0 : 9223372036854775808 ≤ M := by
    rw [← hM]
    have := le_div_len Q D 63 (by omega)
    simpa using this
  have hcut := roundW_more neg Q e more D hQ (by omega)
  obtain ⟨L, hL⟩ : ∃ L, decide (Q % 2 ^ D ≠ 0) = L := ⟨_, rfl⟩
  rw [hM, hL, Bool.or_comm] at hcut
  have hbad : roundBad (M : Int) (e + D) (more || L) = false := by
    unfold roundBad
    have : decide ((M : Int) < 9007199254740992) = false := decide_eq_false (by omega)
    rw [this, Bool.and_false, Bool.false_and]
  have hRnd := fun w => rround_any neg (M : Int) (e + D) (more || L) w (by omega) (by omega) hbad
  rw [hcut] at hRnd
  obtain ⟨W, hW⟩ : ∃ W, roundN neg (2 * Q + more.toNat) (e - 1) = W := ⟨_, rfl⟩
  rw [hW] at hRnd ⊢
  have hE : e + (N : Int) - 64 = e + (D : Int) := by omega
  have hBi := rbits_v h1 (valL_limbs Q) hN hl
  have hSh := fun w' (hb : Below w.heap.size w w') => rshr_v (i := D) (h1.below hb) (valL_limbs Q) hM hL rfl hl (by omega)
  have hDle : (D : Int) ≤ 256000 := by omega
  have hD1 : (0 : Int) ≤ D := by omega
  have hN1 : (0 : Int) ≤ N := by omega
  have hN2 : (N : Int) ≤ 256000 := by omega
  have hl1 : limbs M = [M] := limbs_one (by omega) hM1
  simp only [hl1] at hSh
  clear hcut hbad hW hL hM hN hD hlen h1 hQ hl hl1
  go_enter Tryz.func86, Tryz.ntmps86
  go_wp2_with fail
  refine hBi.mono ?_
  rintro x w1 ⟨rfl, hb1⟩
  have hSh1 := hSh _ hb1
  clear hBi hSh
  go_wp2_with fail
  refine hSh1.mono ?_
  rintro x w2 ⟨a2, n2, c2, rfl, h2, hb2⟩
  have hB2 := below_step hb1 hb2
  clear hSh1 hb2 hb1
  obtain ⟨bb, off, rfl, hc⟩ := h2.2.2.2.2 0 (by simp)
  obtain rfl : n2 = 1 := h2.1
  have hc' : w2.cell? ⟨bb, off, none⟩ = some (.int .u64 (M : Int)) := by simpa using hc
  have hbl : bb < w2.heap.size := cell_lt hc
  clear h2 hc
  cases more
  all_goals simp only [Bool.true_or, Bool.false_or] at hRnd
  all_goals go_wp2_with fail
  all_goals refine (hRnd _).mono ?_
  all_goals rintro x w4 ⟨rfl, hb4⟩
  all_goals go_wp2_with fail
  all_goals go_ret
  all_goals exact ⟨rfl, below_step hB2 hb4⟩
theorem rlong4_any (s : Bool) (e : Int) (h1 : Num w a n c l) (hl : l.length ≤ 2000) :
    Calls Tryz.prog 81 #[.agg #[.bool s, .slice a n c, .int .i64 e]] w fun z w' => z = .returned (.bool false) ∧ Below w.heap.size w w' := by
  have X0 := Boxed3.new w s a n c e 24 (g := w.heap.size) rfl
  obtain ⟨x0, x1, x2, _, _, _⟩ := id X0
  have hN := fun w' (hb : Below w.heap.size w w') => rnorm_n (h1.below hb) (by omega)
  have hlen : Hid ((limbs (valL l)).length ≤ 2000) := Lib.hid (Nat.le_trans (len_of h1.limbs) hl)
  clear X0 h1 hl
  go_enter Tryz.func81, Tryz.ntmps81
  go_wp2_with fail
  refine (hN _ (by repeat' (first | exact Below.refl _ _ | refine below_alloc ?_ _))).mono ?_
  rintro z w1 ⟨a', n', c', rfl, h2, hb⟩
  have hd : decide (2048 < (n' : Int)) = false := decide_eq_false (by have := hlen.out; have := h2.1; omega)
  clear hN h2
  go_wp2_with fail
  go_ret
  exact ⟨rfl, below_step (w0 := w) (by (repeat' (first | exact Below.refl _ _ | assumption | (refine below_alloc ?_ _) | (refine Below.setCell ?_ ?_ _) | (refine Below.drew ?_) | (refine below_drewN ?_ _))) <;> (first | (simp; done) | (simp; omega) | omega)) hb⟩
end
end Go.Proofs.YtjlaadadbpffdaaGreatDoor

namespace Go.Proofs.YtjlaadadbpffdaaGreatDoor
open Go.RowKit Go.Plumb
section
variable {w : World} {a b : Option Addr} {n c m d : Nat} {l k : List Nat}
theorem rQuot4_bad1 (s s' : Bool) (e e' : Int) (h1 : Num w a n c l) (hl : l.length ≤ 100) (he : ¬ mayE e) :
    Calls Tryz.prog 19 #[.agg #[.bool s, .slice a n c, .int .i64 e], .agg #[.bool s', .slice b m d, .int .i64 e']] w fun z w' => z = .returned (.tuple #[.int .u64 0, .int .i64 2]) ∧ Below w.heap.size w w' := by
  have hM1 := fun w' (hb : Below w.heap.size w w') => rMay3_any s e (h1.below hb) (by omega)
  simp only [decide_eq_false he] at hM1
  clear he h1
  go_enter Tryz.func19, Tryz.ntmps19
  go_wp2_with fail
  refine (hM1 _ (by repeat' (first | exact Below.refl _ _ | refine below_alloc ?_ _))).mono ?_
  rintro x w1 ⟨rfl, hb⟩
  go_wp2_with fail
  go_ret2
  exact ⟨rfl, below_step (w0 := w) (by (repeat' (first | exact Below.refl _ _ | assumption | (refine below_alloc ?_ _) | (refine Below.setCell ?_ ?_ _) | (refine Below.drew ?_) | (refine below_drewN ?_ _))) <;> (first | (simp; done) | (simp; omega) | omega)) hb⟩
theorem rQuot4_bad2 (s s' : Bool) (e e' : Int) (h1 : Num w a n c l) (h2 : Num w b m d k) (hl : l.length ≤ 100) (hl' : k.length ≤ 100) (he : mayE e) (he' : ¬ mayE e') :
    Calls Tryz.prog 19 #[.agg #[.bool s, .slice a n c, .int .i64 e], .agg #[.bool s', .slice b m d, .int .i64 e']] w fun z w' => z = .returned (.tuple #[.int .u64 0, .int .i64 2]) ∧ Below w.heap.size w w' := by
  have X0 := (Boxed3.new w s a n c e 24 (g := w.heap.size) rfl).alloc (.cells #[.bool s', .slice b m d, .int .i64 e'] 24)
  have Y0 := Boxed3.new (w.alloc (.cells #[.bool s, .slice a n c, .int .i64 e] 24)) s' b m d e' 24 (g := w.heap.size + 1) (by simp)
  have hM1 := fun w' (hb : Below w.heap.size w w') => rMay3_any s e (h1.below hb) (by omega)
  have hM2 := fun w' (hb : Below w.heap.size w w') => rMay3_any s' e' (h2.below hb) (by omega)
  simp only [decide_eq_true he] at hM1
  simp only [decide_eq_false he'] at hM2
  clear he he' h1 h2
  go_enter Tryz.func19, Tryz.ntmps19
  go_wp2_with fail
  refine (hM1 _ (by repeat' (first | exact Below.refl _ _ | refine below_alloc ?_ _))).mono ?_
  rintro x w1 ⟨rfl, hb⟩
  have Y1 := Y0.below hb
  have HB1 := below_step (w0 := w) (by (repeat' (first | exact Below.refl _ _ | assumption | (refine below_alloc ?_ _) | (refine Below.setCell ?_ ?_ _) | (refine Below.drew ?_) | (refine below_drewN ?_ _))) <;> (first | (simp; done) | (simp; omega) | omega)) hb
  clear hb X0 Y0 hM1
  obtain ⟨y0, y1, y2, _, _, _⟩ := id Y1
  go_wp2_with fail
  refine (hM2 _ HB1).mono ?_
  rintro x w2 ⟨rfl, hb⟩
  go_wp2_with fail
  go_ret2
  exact ⟨rfl, below_step HB1 hb⟩
set_option maxHeartbeats 2000000 in
theorem rQuot4_zero (s s' : Bool) (e e' : Int) (h1 : Num w a n c l) (h2 : Num w b m d k) (hl : l.length ≤ 100) (hl' : k.length ≤ 100) (he : mayE e) (he' : mayE e') (h0 : valL k = 0) :
    Calls Tryz.prog 19 #[.agg #[.bool s, .slice a n c, .int .i64 e], .agg #[.bool s', .slice b m d, .int .i64 e']] w fun z w' => z = .returned (.tuple #[.int .u64 0, .int .i64 9]) ∧ Below w.heap.size w w' := by
  have X0 := (Boxed3.new w s a n c e 24 (g := w.heap.size) rfl).alloc (.cells #[.bool s', .slice b m d, .int .i64 e'] 24)
  have Y0 := Boxed3.new (w.alloc (.cells #[.bool s, .slice a n c, .int .i64 e] 24)) s' b m d e' 24 (g := w.heap.size + 1) (by simp)
  have hM1 := fun w' (hb : Below w.heap.size w w') => rMay3_any s e (h1.below hb) (by omega)
  have hM2 := fun w' (hb : Below w.heap.size w w') => rMay3_any s' e' (h2.below hb) (by omega)
  have hS2 := fun w' (hb : Below w.heap.size w w') => rSign3_any s' e' 0 (h2.below hb) (by omega) he' (by rw [sign_opn (by exact he')]; exact if_pos h0)
  simp only [decide_eq_true he] at hM1
  simp only [decide_eq_true he'] at hM2
  clear he he' h1 h2 h0
  go_enter Tryz.func19, Tryz.ntmps19
  go_wp2_with fail
  refine (hM1 _ (by repeat' (first | exact Below.refl _ _ | refine below_alloc ?_ _))).mono ?_
  rintro x w1 ⟨rfl, hb⟩
  have Y1 := Y0.below hb
  have HB1 := below_step (w0 := w) (by (repeat' (first | exact Below.refl _ _ | assumption | (refine below_alloc ?_ _) | (refine Below.setCell ?_ ?_ _) | (refine Below.drew ?_) | (refine below_drewN ?_ _))) <;> (first | (simp; done) | (simp; omega) | omega)) hb
  clear hb X0 Y0 hM1
  obtain ⟨y0, y1, y2, _, _, _⟩ := id Y1
  go_wp2_with fail
  refine (hM2 _ HB1).mono ?_
  rintro x w2 ⟨rfl, hb⟩
  have Y2 := Y1.below hb
  have HB2 := below_step HB1 hb
  clear hb Y1 hM2 HB1 y0 y1 y2
  obtain ⟨y0, y1, y2, _, _, _⟩ := id Y2
  go_wp2_with fail
  refine (hS2 _ HB2).mono ?_
  rintro x w3 ⟨rfl, hb⟩
  go_wp2_with fail
  go_ret2
  exact ⟨rfl, below_step HB2 hb⟩
set_option maxHeartbeats 2000000 in
theorem rQuot4_nought (s s' : Bool) (e e' : Int) (h1 : Num w a n c l) (h2 : Num w b m d k) (hl : l.length ≤ 100) (hl' : k.length ≤ 100) (he : mayE e) (he' : mayE e') (h0 : valL k ≠ 0) (h0' : valL l = 0) :
    Calls Tryz.prog 19 #[.agg #[.bool s, .slice a n c, .int .i64 e], .agg #[.bool s', .slice b m d, .int .i64 e']] w fun z w' => z = .returned (.tuple #[.int .u64 0, .int .i64 0]) ∧ Below w.heap.size w w' := by
  have X0 := (Boxed3.new w s a n c e 24 (g := w.heap.size) rfl).alloc (.cells #[.bool s', .slice b m d, .int .i64 e'] 24)
  have Y0 := Boxed3.new (w.alloc (.cells #[.bool s, .slice a n c, .int .i64 e] 24)) s' b m d e' 24 (g := w.heap.size + 1) (by simp)
  have hM1 := fun w' (hb : Below w.heap.size w w') => rMay3_any s e (h1.below hb) (by omega)
  have hM2 := fun w' (hb : Below w.heap.size w w') => rMay3_any s' e' (h2.below hb) (by omega)
  obtain ⟨z, hz⟩ : ∃ z, signO ⟨s', valL k, e'⟩ = z := ⟨_, rfl⟩
  have hz0 : z ≠ 0 := by rw [← hz, sign_opn (by exact he'), if_neg (by exact h0)]; split <;> decide
  have hS2 := fun w' (hb : Below w.heap.size w w') => rSign3_any s' e' z (h2.below hb) (by omega) he' hz
  have hS1 := fun w' (hb : Below w.heap.size w w') => rSign3_any s e 0 (h1.below hb) (by omega) he (by rw [sign_opn (by exact he)]; exact if_pos h0')
  have hL1 := fun w' (hb : Below w.heap.size w w') => rlong4_any s e (h1.below hb) (by omega)
  have hL2 := fun w' (hb : Below w.heap.size w w') => rlong4_any s' e' (h2.below hb) (by omega)
  simp only [decide_eq_true he] at hM1
  simp only [decide_eq_true he'] at hM2
  clear he he' h1 h2 h0 h0' hz
  go_enter Tryz.func19, Tryz.ntmps19
  go_wp2_with fail
  refine (hM1 _ (by repeat' (first | exact Below.refl _ _ | refine below_alloc ?_ _))).mono ?_
  rintro x w1 ⟨rfl, hb⟩
  have X1 := X0.below hb
  have Y1 := Y0.below hb
  have HB1 := below_step (w0 := w) (by (repeat' (first | exact Below.refl _ _ | assumption | (refine below_alloc ?_ _) | (refine Below.setCell ?_ ?_ _) | (refine Below.drew ?_) | (refine below_drewN ?_ _))) <;> (first | (simp; done) | (simp; omega) | omega)) hb
  clear hb X0 Y0 hM1
  obtain ⟨x0, x1, x2, _, _, _⟩ := id X1
  obtain ⟨y0, y1, y2, _, _, _⟩ := id Y1
  go_wp2_with fail
  refine (hM2 _ HB1).mono ?_
  rintro x w2 ⟨rfl, hb⟩
  have X2 := X1.below hb
  have Y2 := Y1.below hb
  have HB2 := below_step HB1 hb
  clear hb X1 Y1 HB1 hM2 x0 x1 x2 y0 y1 y2
  obtain ⟨x0, x1, x2, _, _, _⟩ := id X2
  obtain ⟨y0, y1, y2, _, _, _⟩ := id Y2
  go_wp2_with fail
  refine (hS2 _ HB2).mono ?_
  rintro x w3 ⟨rfl, hb⟩
  have X3 := X2.below hb
  have Y3 := Y2.below hb
  have HB3 := below_step HB2 hb
  clear hb X2 Y2 HB2 hS2 x0 x1 x2 y0 y1 y2
  obtain ⟨x0, x1, x2, _, _, _⟩ := id X3
  obtain ⟨y0, y1, y2, _, _, _⟩ := id Y3
  go_wp2_with fail
  refine (hL1 _ HB3).mono ?_
  rintro x w4 ⟨rfl, hb⟩
  have X4 := X3.below hb
  have Y4 := Y3.below hb
  have HB4 := below_step HB3 hb
  clear hb X3 Y3 HB3 hL1 x0 x1 x2 y0 y1 y2
  obtain ⟨x0, x1, x2, _, _, _⟩ := id X4
  obtain ⟨y0, y1, y2, _, _, _⟩ := id Y4
  go_wp2_with fail
  refine (hL2 _ HB4).mono ?_
  rintro x w5 ⟨rfl, hb⟩
  have X5 := X4.below hb
  have Y5 := Y4.below hb
  have HB5 := below_step HB4 hb
  clear hb X4 Y4 HB4 hL2 x0 x1 x2 y0 y1 y2
  obtain ⟨x0, x1, x2, _, _, _⟩ := id X5
  obtain ⟨y0, y1, y2, _, _, _⟩ := id Y5
  go_wp2_with fail
  refine (hS1 _ HB5).mono ?_
  rintro x w6 ⟨rfl, hb⟩
  go_wp2_with fail
  go_ret2
  exact ⟨rfl, below_step HB5 hb⟩
set_option maxHeartbeats 4000000 in
set_option maxRecDepth 20000 in
theorem rQuot4_ok (s s' : Bool) (e e' : Int) (h1 : Num w a n c l) (h2 : Num w b m d k) (hl : l.length ≤ 100) (hl' : k.length ≤ 100) (he : mayE e) (he' : mayE e') (h0 : valL k ≠ 0) (h0' : valL l ≠ 0) (W : Nat) (hW : quoD ⟨s, valL l, e⟩ ⟨s', valL k, e'⟩ = W) :
    Calls Tryz.prog 19 #[.agg #[.bool s, .slice a n c, .int .i64 e], .agg #[.bool s', .slice b m d, .int .i64 e']] w fun z w' => z = .returned (.tuple #[.int .u64 (W : Int), .int .i64 0]) ∧ Below w.heap.size w w' := by
  have X0 := (Boxed3.new w s a n c e 24 (g := w.heap.size) rfl).alloc (.cells #[.bool s', .slice b m d, .int .i64 e'] 24)
  have Y0 := Boxed3.new (w.alloc (.cells #[.bool s, .slice a n c, .int .i64 e] 24)) s' b m d e' 24 (g := w.heap.size + 1) (by simp)
  have hM1 := fun w' (hb : Below w.heap.size w w') => rMay3_any s e (h1.below hb) (by omega)
  have hM2 := fun w' (hb : Below w.heap.size w w') => rMay3_any s' e' (h2.below hb) (by omega)
  obtain ⟨z, hz⟩ : ∃ z, signO ⟨s', valL k, e'⟩ = z := ⟨_, rfl⟩
  have hz0 : z ≠ 0 := by rw [← hz, sign_opn (by exact he'), if_neg (by exact h0)]; split <;> decide
  obtain ⟨z', hz'⟩ : ∃ z, signO ⟨s, valL l, e⟩ = z := ⟨_, rfl⟩
  have hz0' : z' ≠ 0 := by rw [← hz', sign_opn (by exact he), if_neg (by exact h0')]; split <;> decide
  have hS2 := fun w' (hb : Below w.heap.size w w') => rSign3_any s' e' z (h2.below hb) (by omega) he' hz
  have hS1 := fun w' (hb : Below w.heap.size w w') => rSign3_any s e z' (h1.below hb) (by omega) he hz'
  have hL1 := fun w' (hb : Below w.heap.size w w') => rlong4_any s e (h1.below hb) (by omega)
  have hL2 := fun w' (hb : Below w.heap.size w w') => rlong4_any s' e' (h2.below hb) (by omega)
  have hN1 := fun w' (hb : Below w.heap.size w w') => rNorm3_any s e (h1.below hb) (by omega) (by have := he.1; omega) (by have := he.2; omega)
  have hN2 := fun w' (hb : Below w.heap.size w w') => rNorm3_any s' e' (h2.below hb) (by omega) (by have := he'.1; omega) (by have := he'.2; omega)
  simp only [decide_eq_true he] at hM1
  simp only [decide_eq_true he'] at hM2
  have hb0 := nrm_e_may (s := s) h1.limbs (by omega) he
  have hb0' := nrm_e_may (s := s') h2.limbs (by omega) he'
  have hb1 := nrm_len (s := s) (e := e) h1.limbs
  have hb1' := nrm_len (s := s') (e := e') h2.limbs
  have zX : (nrm ⟨s, valL l, e⟩).m ≠ 0 := fun h => h0' ((nrm_m_zero _).1 h)
  have zY : (nrm ⟨s', valL k, e'⟩).m ≠ 0 := fun h => h0 ((nrm_m_zero _).1 h)
  rw [← quoD_nrm _ _ h0' h0] at hW
  obtain ⟨X, hX⟩ : ∃ X, nrm ⟨s, valL l, e⟩ = X := ⟨_, rfl⟩
  obtain ⟨Y, hY⟩ : ∃ Y, nrm ⟨s', valL k, e'⟩ = Y := ⟨_, rfl⟩
  simp only [hX] at hN1 hb0 hb1 zX hW
  simp only [hY] at hN2 hb0' hb1' zY hW
  obtain ⟨xs, xm, xe⟩ := X
  obtain ⟨ys, ym, ye⟩ := Y
  simp only at hN1 hN2 hb0 hb0' hb1 hb1' zX zY
  have lX : (limbs xm).length ≤ 100 := by omega
  have lY : (limbs ym).length ≤ 100 := by omega
  have bX := lenN_of_len lX
  have bY := lenN_of_len lY
  obtain ⟨N1, hN1'⟩ : ∃ N, lenN xm = N := ⟨_, rfl⟩
  obtain ⟨N2, hN2'⟩ : ∃ N, lenN ym = N := ⟨_, rfl⟩
  obtain ⟨D, hD⟩ : ∃ D, N2 - N1 = D := ⟨_, rfl⟩
  obtain ⟨M, hM⟩ : ∃ M, xm * 2 ^ (D + 70) = M := ⟨_, rfl⟩
  obtain ⟨G, hG⟩ : ∃ G, M / ym = G := ⟨_, rfl⟩
  obtain ⟨more, hmore⟩ : ∃ t, decide (M % ym ≠ 0) = t := ⟨_, rfl⟩
  have lM : lenN M ≤ N1 + (D + 70) := by rw [← hM, ← hN1']; exact lenN_mul_pow _ _
  have hlM : (limbs M).length ≤ 1000 := len_of_lenN (by rw [hN1'] at bX; rw [hN2'] at bY; omega)
  have hG64 : 64 ≤ lenN G := by rw [← hG, ← hM]; exact quo_bits70 zX zY hN1' hN2' hD
  have hlG : (limbs G).length ≤ 4000 := by
    rw [← hG]
    exact Nat.le_trans (length_mono (Nat.div_le_self _ _)) (by omega)
  have hres : roundN (xs != ys) (2 * G + more.toNat) (xe - ye - ((D : Int) + 70) - 1) = W := by
    rw [← hW, ← hmore, ← hG, ← hM]
    have h := quoD_at ⟨xs, xm, xe⟩ ⟨ys, ym, ye⟩ (D + 70) zX zY (by simp only; omega)
    rw [← h]
    unfold quoR
    congr 1 <;> simp only <;> omega
  have HF := Lib.hid (And.intro hN1' (And.intro hN2' (And.intro hM (And.intro hlM (And.intro zY (And.intro hG (And.intro hmore (And.intro hG64 (And.intro hlG (And.intro lX (And.intro lY hres)))))))))))
  have bD : (D : Int) ≤ 6400 := by rw [hN2'] at bY; omega
  have bD0 : (0 : Int) ≤ (D : Int) := by omega
  have bN1 : (N1 : Int) ≤ 6400 := by rw [hN1'] at bX; omega
  have bN2 : (N2 : Int) ≤ 6400 := by rw [hN2'] at bY; omega
  have bN1' : (0 : Int) ≤ (N1 : Int) := by omega
  have bN2' : (0 : Int) ≤ (N2 : Int) := by omega
  have bE1 : -1000000 ≤ xe := by omega
  have bE2 : xe ≤ 1000000 := by omega
  have bE3 : -1000000 ≤ ye := by omega
  have bE4 : ye ≤ 1000000 := by omega
  have hup : IntKind.i64.wrap (max 0 (IntKind.i64.wrap ((N2 : Int) - (N1 : Int))) + 70) = (D : Int) + 70 := by
    rw [IntWalk.i64_in ((N2 : Int) - (N1 : Int)) ⟨by omega, by omega⟩, show max 0 ((N2 : Int) - (N1 : Int)) = (D : Int) by omega, IntWalk.i64_in _ ⟨by omega, by omega⟩]
  have HUP := Lib.hid hup
  clear hX hY h1 h2 he he' h0 h0' hup hz hz' hN1' hN2' hD hM hG hmore lM hlM hG64 hlG hres hW bX bY lX lY zX zY hb0 hb0' hb1 hb1'
  go_enter Tryz.func19, Tryz.ntmps19
  go_wp2_with fail
  refine (hM1 _ (by repeat' (first | exact Below.refl _ _ | refine below_alloc ?_ _))).mono ?_
  rintro x w1 ⟨rfl, hb⟩
  have X1 := X0.below hb
  have Y1 := Y0.below hb
  have HB1 := below_step (w0 := w) (by (repeat' (first | exact Below.refl _ _ | assumption | (refine below_alloc ?_ _) | (refine Below.setCell ?_ ?_ _) | (refine Below.drew ?_) | (refine below_drewN ?_ _))) <;> (first | (simp; done) | (simp; omega) | omega)) hb
  clear hb X0 Y0 hM1
  obtain ⟨x0, x1, x2, _, _, _⟩ := id X1
  obtain ⟨y0, y1, y2, _, _, _⟩ := id Y1
  go_wp2_with fail
  refine (hM2 _ HB1).mono ?_
  rintro x w2 ⟨rfl, hb⟩
  have X2 := X1.below hb
  have Y2 := Y1.below hb
  have HB2 := below_step HB1 hb
  clear hb X1 Y1 HB1 hM2 x0 x1 x2 y0 y1 y2
  obtain ⟨x0, x1, x2, _, _, _⟩ := id X2
  obtain ⟨y0, y1, y2, _, _, _⟩ := id Y2
  go_wp2_with fail
  refine (hS2 _ HB2).mono ?_
  rintro x w3 ⟨rfl, hb⟩
  have X3 := X2.below hb
  have Y3 := Y2.below hb
  have HB3 := below_step HB2 hb
  clear hb X2 Y2 HB2 hS2 x0 x1 x2 y0 y1 y2
  obtain ⟨x0, x1, x2, _, _, _⟩ := id X3
  obtain ⟨y0, y1, y2, _, _, _⟩ := id Y3
  go_wp2_with fail
  refine (hL1 _ HB3).mono ?_
  rintro x w4 ⟨rfl, hb⟩
  have X4 := X3.below hb
  have Y4 := Y3.below hb
  have HB4 := below_step HB3 hb
  clear hb X3 Y3 HB3 hL1 x0 x1 x2 y0 y1 y2
  obtain ⟨x0, x1, x2, _, _, _⟩ := id X4
  obtain ⟨y0, y1, y2, _, _, _⟩ := id Y4
  go_wp2_with fail
  refine (hL2 _ HB4).mono ?_
  rintro x w5 ⟨rfl, hb⟩
  have X5 := X4.below hb
  have Y5 := Y4.below hb
  have HB5 := below_step HB4 hb
  clear hb X4 Y4 HB4 hL2 x0 x1 x2 y0 y1 y2
  obtain ⟨x0, x1, x2, _, _, _⟩ := id X5
  obtain ⟨y0, y1, y2, _, _, _⟩ := id Y5
  go_wp2_with fail
  refine (hS1 _ HB5).mono ?_
  rintro x w6 ⟨rfl, hb⟩
  have X6 := X5.below hb
  have Y6 := Y5.below hb
  have HB6 := below_step HB5 hb
  clear hb X5 Y5 HB5 hS1 x0 x1 x2 y0 y1 y2
  obtain ⟨x0, x1, x2, f0, f1, f2⟩ := id X6
  obtain ⟨y0, y1, y2, g0, g1, g2⟩ := id Y6
  go_wp2_with fail
  go_region_with ((first | (go_at_call 82; (with_reducible refine (hN1 _ (by first | assumption | exact Below.drew (by assumption) | ((repeat' (first | exact Below.refl _ _ | assumption | (refine below_alloc ?_ _) | (refine Below.setCell ?_ ?_ _) | (refine Below.drew ?_) | (refine below_drewN ?_ _))) <;> (first | (simp; done) | (simp; omega) | omega)))).mono ?_); rintro e v1 ⟨p1, q1, r1, rfl, M1, hb⟩; have U1 := Boxed3.below (b := w.heap.size) (by first | assumption | exact Boxed3.drew (by assumption)) hb; have V1 := Boxed3.below (b := w.heap.size + 1) (by first | assumption | exact Boxed3.drew (by assumption)) hb; have HC1 := below_step (w0 := w) (by first | assumption | exact Below.drew (by assumption) | ((repeat' (first | exact Below.refl _ _ | assumption | (refine below_alloc ?_ _) | (refine Below.setCell ?_ ?_ _) | (refine Below.drew ?_) | (refine below_drewN ?_ _))) <;> (first | (simp; done) | (simp; omega) | omega))) hb; obtain ⟨x0, x1, x2, f0, f1, f2⟩ := id U1; obtain ⟨y0, y1, y2, h0, h1, h2⟩ := id V1; clear hb) | (go_at_call 82; (with_reducible refine (hN2 _ (by first | assumption | exact Below.drew (by assumption) | ((repeat' (first | exact Below.refl _ _ | assumption | (refine below_alloc ?_ _) | (refine Below.setCell ?_ ?_ _) | (refine Below.drew ?_) | (refine below_drewN ?_ _))) <;> (first | (simp; done) | (simp; omega) | omega)))).mono ?_); rintro e v2 ⟨p2, q2, r2, rfl, M2, hb⟩; have U2 := Boxed3.below (b := w.heap.size) (by first | assumption | exact Boxed3.drew (by assumption)) hb; have V2 := Boxed3.below (b := w.heap.size + 1) (by first | assumption | exact Boxed3.drew (by assumption)) hb; have HC2 := below_step (w0 := w) (by first | assumption | exact Below.drew (by assumption) | ((repeat' (first | exact Below.refl _ _ | assumption | (refine below_alloc ?_ _) | (refine Below.setCell ?_ ?_ _) | (refine Below.drew ?_) | (refine below_drewN ?_ _))) <;> (first | (simp; done) | (simp; omega) | omega))) hb; have M3 := Num.below M1 hb; obtain ⟨x0, x1, x2, f0, f1, f2⟩ := id U2; obtain ⟨y0, y1, y2, h0, h1, h2⟩ := id V2; clear hb)))
  all_goals obtain ⟨W5, hW5⟩ : ∃ W5, (((((v2.setCell ⟨w.heap.size, 0, none⟩ (.bool xs)).setCell ⟨w.heap.size, 1, none⟩ (.slice p1 q1 r1)).setCell ⟨w.heap.size, 2, none⟩ (.int .i64 xe)).setCell ⟨w.heap.size + 1, 0, none⟩ (.bool ys)).setCell ⟨w.heap.size + 1, 1, none⟩ (.slice p2 q2 r2)).setCell ⟨w.heap.size + 1, 2, none⟩ (.int .i64 ye) = W5 := ⟨_, rfl⟩
  all_goals have V3 := ((V2.other (k := w.heap.size) (by omega) 0 (.bool xs)).other (k := w.heap.size) (by omega) 1 (.slice p1 q1 r1)).other (k := w.heap.size) (by omega) 2 (.int .i64 xe)
  all_goals have U3 := U2.fill xs p1 q1 r1 xe
  all_goals have X7 : Boxed3 W5 w.heap.size xs p1 q1 r1 xe := by rw [← hW5]; exact ((U3.other (by omega) _ _).other (by omega) _ _).other (by omega) _ _
  all_goals have Y7 : Boxed3 W5 (w.heap.size + 1) ys p2 q2 r2 ye := by rw [← hW5]; exact V3.fill ..
  all_goals have L1 : Num W5 p1 q1 r1 (limbs xm) := by rw [← hW5]; exact Num.fill V3 (Num.fill U2 M3 ..) ..
  all_goals have L2 : Num W5 p2 q2 r2 (limbs ym) := by rw [← hW5]; exact Num.fill V3 (Num.fill U2 M2 ..) ..
  all_goals have HB7 : Below w.heap.size w W5 := by rw [← hW5]; exact Below.fill3 (Below.fill3 HC2 (Nat.le_refl _) _ _ _) (Nat.le_succ _) _ _ _
  all_goals rw [hW5]
  all_goals clear hW5 U3 V3 U1 V1 HC1 M1 U2 V2 HC2 M2 M3 x0 x1 x2 f0 f1 f2 y0 y1 y2 X6 Y6 HB6 hN1 hN2
  all_goals have HSS : Hid (∀ wx, Below W5.heap.size W5 wx → Below W5.heap.size W5 wx ∧ wx.cell? ⟨w.heap.size, 0, none⟩ = some (.bool xs) ∧ wx.cell? ⟨w.heap.size, 1, none⟩ = some (.slice p1 q1 r1) ∧ wx.cell? ⟨w.heap.size, 2, none⟩ = some (.int .i64 xe) ∧ wx.cell? ⟨w.heap.size + 1, 0, none⟩ = some (.bool ys) ∧ wx.cell? ⟨w.heap.size + 1, 1, none⟩ = some (.slice p2 q2 r2) ∧ wx.cell? ⟨w.heap.size + 1, 2, none⟩ = some (.int .i64 ye)) := Lib.hid (fun wx h => ⟨h, (X7.below h).c0, (X7.below h).c1, (X7.below h).c2, (Y7.below h).c0, (Y7.below h).c1, (Y7.below h).c2⟩)
  all_goals have hB1 := fun wx (h : Below W5.heap.size W5 wx) => rbits_v (L1.below h) (valL_limbs xm) HF.out.1 (by have := HF.out.2.2.2.2.2.2.2.2.2.1; omega)
  all_goals have hB2 := fun wx (h : Below W5.heap.size W5 wx) => rbits_v (L2.below h) (valL_limbs ym) HF.out.2.1 (by have := HF.out.2.2.2.2.2.2.2.2.2.2.1; omega)
  all_goals have HB0 := Below.refl W5.heap.size W5
  all_goals obtain ⟨x0, x1, x2, _, _, _⟩ := id X7
  all_goals obtain ⟨y0, y1, y2, _, _, _⟩ := id Y7
  all_goals go_wp2_with fail
  all_goals go_region_held3 (fun wx => Below W5.heap.size W5 wx ∧ wx.cell? ⟨w.heap.size, 0, none⟩ = some (.bool xs) ∧ wx.cell? ⟨w.heap.size, 1, none⟩ = some (.slice p1 q1 r1) ∧ wx.cell? ⟨w.heap.size, 2, none⟩ = some (.int .i64 xe) ∧ wx.cell? ⟨w.heap.size + 1, 0, none⟩ = some (.bool ys) ∧ wx.cell? ⟨w.heap.size + 1, 1, none⟩ = some (.slice p2 q2 r2) ∧ wx.cell? ⟨w.heap.size + 1, 2, none⟩ = some (.int .i64 ye)) (first | exact HSS.out _ (by assumption) | exact HSS.out _ (Below.drew (by assumption))) ((first | (go_at_call 83; (with_reducible first | refine (hB1 _ (by first | assumption | exact Below.drew (by assumption))).mono ?_ | refine (hB2 _ (by first | assumption | exact Below.drew (by assumption))).mono ?_); rintro e wz ⟨rfl, hb⟩; have HB0 := below_step (w0 := W5) (by first | assumption | exact Below.drew (by assumption)) hb; clear hb)))
  all_goals rw [HUP.out]
  all_goals have hSh := fun wx (h : Below W5.heap.size W5 wx) => rshl_v (e := (D : Int) + 70) (L1.below h) (valL_limbs xm) HF.out.2.2.1 (by simp) (by have := HF.out.2.2.2.2.2.2.2.2.2.1; omega) (by omega)
  all_goals have hDv := fun wx p q r (h : Below W5.heap.size W5 wx) (hn : Num wx p q r (limbs M)) => divide_v hn (L2.below h) (valL_limbs M) (valL_limbs ym) HF.out.2.2.2.2.1 HF.out.2.2.2.2.2.1 HF.out.2.2.2.2.2.2.1 (by have := HF.out.2.2.2.1; omega) (by have := HF.out.2.2.2.2.2.2.2.2.2.2.1; omega)
  all_goals go_wp2_with fail
  all_goals go_region_held3 (fun wx => Below W5.heap.size W5 wx ∧ wx.cell? ⟨w.heap.size, 0, none⟩ = some (.bool xs) ∧ wx.cell? ⟨w.heap.size, 1, none⟩ = some (.slice p1 q1 r1) ∧ wx.cell? ⟨w.heap.size, 2, none⟩ = some (.int .i64 xe) ∧ wx.cell? ⟨w.heap.size + 1, 0, none⟩ = some (.bool ys) ∧ wx.cell? ⟨w.heap.size + 1, 1, none⟩ = some (.slice p2 q2 r2) ∧ wx.cell? ⟨w.heap.size + 1, 2, none⟩ = some (.int .i64 ye)) (first | exact HSS.out _ (by assumption) | exact HSS.out _ (Below.drew (by assumption))) ((first | (go_at_call 85; (with_reducible refine (hSh _ (by first | assumption | exact Below.drew (by assumption))).mono ?_); rintro e wz ⟨p6, q6, r6, rfl, M6, hb⟩; have HB0 := below_step (w0 := W5) (by first | assumption | exact Below.drew (by assumption)) hb; clear hb) | (go_at_call 84; (with_reducible refine (hDv _ _ _ _ (by first | assumption | exact Below.drew (by assumption)) (by first | assumption | exact Num.drew (by assumption))).mono ?_); rintro e wz ⟨p7, q7, r7, rfl, M7, hb⟩; have HB0 := below_step (w0 := W5) (by first | assumption | exact Below.drew (by assumption)) hb; clear hb)))
  all_goals have hR0 := fun wx (hn : Num wx p7 q7 r7 (limbs G)) => rround4_any (xs != ys) G (xe - ye - ((D : Int) + 70)) more hn HF.out.2.2.2.2.2.2.2.1 HF.out.2.2.2.2.2.2.2.2.1 (by omega) (by omega)
  all_goals rw [HF.out.2.2.2.2.2.2.2.2.2.2.2] at hR0
  all_goals have hRd : ∀ wx, Num wx p7 q7 r7 (limbs G) → Calls Tryz.prog 86 #[.bool (!(xs == ys)), .slice p7 q7 r7, .int .i64 (xe - ye - ((D : Int) + 70)), .bool more] wx fun z w'' => z = .returned (.int .u64 (W : Int)) ∧ Below wx.heap.size wx w'' := hR0
  all_goals have HSn := Lib.hid (HSS.out _ (by first | assumption | exact Below.drew (by assumption)))
  all_goals obtain ⟨_, x0, x1, x2, y0, y1, y2⟩ := id HSn.out
  all_goals clear hR0 hDv hSh
  all_goals go_wp2_with fail
  all_goals refine (hRd _ (by first | assumption | exact Num.drew (by assumption))).mono ?_
  all_goals rintro x w8 ⟨rfl, hb⟩
  all_goals have hbz := below_step (w0 := W5) (by first | assumption | exact Below.drew (by assumption)) hb
  all_goals go_wp2_with fail
  all_goals go_ret2
  all_goals exact ⟨rfl, below_step HB7 hbz⟩
theorem rQuot4_any (s s' : Bool) (e e' : Int) (h1 : Num w a n c l) (h2 : Num w b m d k) (hl : l.length ≤ 100) (hl' : k.length ≤ 100) (W : Nat) (r : Int) (hO : quoO ⟨s, valL l, e⟩ ⟨s', valL k, e'⟩ = (W, r)) :
    Calls Tryz.prog 19 #[.agg #[.bool s, .slice a n c, .int .i64 e], .agg #[.bool s', .slice b m d, .int .i64 e']] w fun z w' => z = .returned (.tuple #[.int .u64 (W : Int), .int .i64 r]) ∧ Below w.heap.size w w' := by
  unfold quoO at hO
  by_cases hm : mayE e
  · by_cases hm' : mayE e'
    · rw [if_pos ⟨hm, hm'⟩] at hO
      by_cases h0 : valL k = 0
      · rw [if_pos h0] at hO
        obtain ⟨rfl, rfl⟩ := Prod.mk.inj hO
        exact rQuot4_zero s s' e e' h1 h2 hl hl' hm hm' h0
      · rw [if_neg h0] at hO
        by_cases h0' : valL l = 0
        · rw [if_pos h0'] at hO
          obtain ⟨rfl, rfl⟩ := Prod.mk.inj hO
          exact rQuot4_nought s s' e e' h1 h2 hl hl' hm hm' h0 h0'
        · rw [if_neg h0'] at hO
          obtain ⟨hW, rfl⟩ := Prod.mk.inj hO
          exact rQuot4_ok s s' e e' h1 h2 hl hl' hm hm' h0 h0' W hW
    · rw [if_neg (fun h => hm' h.2)] at hO
      obtain ⟨rfl, rfl⟩ := Prod.mk.inj hO
      exact rQuot4_bad2 s s' e e' h1 h2 hl hl' hm hm'
  · rw [if_neg (fun h => hm h.1)] at hO
    obtain ⟨rfl, rfl⟩ := Prod.mk.inj hO
    exact rQuot4_bad1 s s' e e' h1 hl hm
end
end Go.Proofs.YtjlaadadbpffdaaGreatDoor

namespace Go.Proofs.YtjlaadadbpffdaaGreatDoor
open Go.RowKit Go.Plumb
section
variable {w : World} {a b : Option Addr} {n c m d : Nat} {l k : List Nat}
theorem radd_v {M K X : Nat} (h1 : Num w a n c l) (h2 : Num w b m d k) (v1 : valL l = M) (v2 : valL k = K) (hX : M + K = X) (hl : l.length + k.length ≤ 4000) :
    Calls Tryz.prog 88 #[.slice a n c, .slice b m d] w fun e w' => ∃ a' n' c', e = .returned (.slice a' n' c') ∧ Num w' a' n' c' (limbs X) ∧ Below w.heap.size w w' := by
  subst v1 v2
  exact radd_n X h1 h2 hX hl
theorem rmul_v {M K X : Nat} (h1 : Num w a n c l) (h2 : Num w b m d k) (v1 : valL l = M) (v2 : valL k = K) (hX : M * K = X) (hl : l.length + k.length ≤ 4000) :
    Calls Tryz.prog 91 #[.slice a n c, .slice b m d] w fun e w' => ∃ a' n' c', e = .returned (.slice a' n' c') ∧ Num w' a' n' c' (limbs X) ∧ Below w.heap.size w w' := by
  subst v1 v2
  exact rmul_n X h1 h2 hX hl
theorem rRoot4_bad (s : Bool) (e : Int) (h1 : Num w a n c l) (hl : l.length ≤ 100) (he : ¬ mayE e) :
    Calls Tryz.prog 23 #[.agg #[.bool s, .slice a n c, .int .i64 e]] w fun z w' => z = .returned (.tuple #[.int .u64 0, .int .i64 2]) ∧ Below w.heap.size w w' := by
  have hM1 := fun w' (hb : Below w.heap.size w w') => rMay3_any s e (h1.below hb) (by omega)
  simp only [decide_eq_false he] at hM1
  clear he h1
  go_enter Tryz.func23, Tryz.ntmps23
  go_wp2_with fail
  refine (hM1 _ (by repeat' (first | exact Below.refl _ _ | refine below_alloc ?_ _))).mono ?_
  rintro x w1 ⟨rfl, hb⟩
  go_wp2_with fail
  go_ret2
  exact ⟨rfl, below_step (w0 := w) (by (repeat' (first | exact Below.refl _ _ | assumption | (refine below_alloc ?_ _) | (refine Below.setCell ?_ ?_ _) | (refine Below.drew ?_) | (refine below_drewN ?_ _))) <;> (first | (simp; done) | (simp; omega) | omega)) hb⟩
theorem rRoot4_neg (s : Bool) (e : Int) (h1 : Num w a n c l) (hl : l.length ≤ 100) (he : mayE e) (h0 : valL l ≠ 0) (hs : s = true) :
    Calls Tryz.prog 23 #[.agg #[.bool s, .slice a n c, .int .i64 e]] w fun z w' => z = .returned (.tuple #[.int .u64 0, .int .i64 2]) ∧ Below w.heap.size w w' := by
  have X0 := Boxed3.new w s a n c e 24 (g := w.heap.size) rfl
  have hM1 := fun w' (hb : Below w.heap.size w w') => rMay3_any s e (h1.below hb) (by omega)
  have hS1 := fun w' (hb : Below w.heap.size w w') => rSign3_any s e (-1) (h1.below hb) (by omega) he (by rw [sign_opn (by exact he)]; simp [h0, hs])
  simp only [decide_eq_true he] at hM1
  clear he h1 h0 hs
  go_enter Tryz.func23, Tryz.ntmps23
  go_wp2_with fail
  refine (hM1 _ (by repeat' (first | exact Below.refl _ _ | refine below_alloc ?_ _))).mono ?_
  rintro x w1 ⟨rfl, hb⟩
  have X1 := X0.below hb
  have HB1 := below_step (w0 := w) (by (repeat' (first | exact Below.refl _ _ | assumption | (refine below_alloc ?_ _) | (refine Below.setCell ?_ ?_ _) | (refine Below.drew ?_) | (refine below_drewN ?_ _))) <;> (first | (simp; done) | (simp; omega) | omega)) hb
  clear hb X0 hM1
  obtain ⟨x0, x1, x2, _, _, _⟩ := id X1
  go_wp2_with fail
  refine (hS1 _ HB1).mono ?_
  rintro x w2 ⟨rfl, hb⟩
  go_wp2_with fail
  go_ret2
  exact ⟨rfl, below_step HB1 hb⟩
set_option maxHeartbeats 2000000 in
theorem rRoot4_nought (s : Bool) (e : Int) (h1 : Num w a n c l) (hl : l.length ≤ 100) (he : mayE e) (h0 : valL l = 0) :
    Calls Tryz.prog 23 #[.agg #[.bool s, .slice a n c, .int .i64 e]] w fun z w' => z = .returned (.tuple #[.int .u64 0, .int .i64 0]) ∧ Below w.heap.size w w' := by
  have X0 := Boxed3.new w s a n c e 24 (g := w.heap.size) rfl
  have hM1 := fun w' (hb : Below w.heap.size w w') => rMay3_any s e (h1.below hb) (by omega)
  have hS1 := fun w' (hb : Below w.heap.size w w') => rSign3_any s e 0 (h1.below hb) (by omega) he (by rw [sign_opn (by exact he)]; exact if_pos h0)
  have hL1 := fun w' (hb : Below w.heap.size w w') => rlong4_any s e (h1.below hb) (by omega)
  simp only [decide_eq_true he] at hM1
  clear he h1 h0
  go_enter Tryz.func23, Tryz.ntmps23
  go_wp2_with fail
  refine (hM1 _ (by repeat' (first | exact Below.refl _ _ | refine below_alloc ?_ _))).mono ?_
  rintro x w1 ⟨rfl, hb⟩
  have X1 := X0.below hb
  have HB1 := below_step (w0 := w) (by (repeat' (first | exact Below.refl _ _ | assumption | (refine below_alloc ?_ _) | (refine Below.setCell ?_ ?_ _) | (refine Below.drew ?_) | (refine below_drewN ?_ _))) <;> (first | (simp; done) | (simp; omega) | omega)) hb
  clear hb X0 hM1
  obtain ⟨x0, x1, x2, _, _, _⟩ := id X1
  go_wp2_with fail
  refine (hS1 _ HB1).mono ?_
  rintro x w2 ⟨rfl, hb⟩
  have X2 := X1.below hb
  have HB2 := below_step HB1 hb
  clear hb X1 HB1 x0 x1 x2
  obtain ⟨x0, x1, x2, _, _, _⟩ := id X2
  go_wp2_with fail
  refine (hL1 _ HB2).mono ?_
  rintro x w3 ⟨rfl, hb⟩
  have X3 := X2.below hb
  have HB3 := below_step HB2 hb
  clear hb X2 HB2 x0 x1 x2
  obtain ⟨x0, x1, x2, _, _, _⟩ := id X3
  go_wp2_with fail
  refine (hS1 _ HB3).mono ?_
  rintro x w4 ⟨rfl, hb⟩
  have X4 := X3.below hb
  have HB4 := below_step HB3 hb
  clear hb X3 HB3 x0 x1 x2
  obtain ⟨x0, x1, x2, _, _, _⟩ := id X4
  go_wp2_with fail
  go_ret2
  exact ⟨rfl, HB4⟩
set_option maxHeartbeats 8000000 in
set_option maxRecDepth 20000 in
theorem rRoot4_even (s : Bool) (e : Int) (xs : Bool) (xm : Nat) (xe : Int) (hX : nrm ⟨s, valL l, e⟩ = ⟨xs, xm, xe⟩) (hpar : xe % 2 = 0) (h1 : Num w a n c l) (hl : l.length ≤ 100) (he : mayE e) (h0 : valL l ≠ 0) (hs : s = false) (W : Nat) (hW : rootD ⟨s, valL l, e⟩ = W) :
    Calls Tryz.prog 23 #[.agg #[.bool s, .slice a n c, .int .i64 e]] w fun z w' => z = .returned (.tuple #[.int .u64 (W : Int), .int .i64 0]) ∧ Below w.heap.size w w' := by
  have X0 := Boxed3.new w s a n c e 24 (g := w.heap.size) rfl
  have hM1 := fun w' (hb : Below w.heap.size w w') => rMay3_any s e (h1.below hb) (by omega)
  have hS1 := fun w' (hb : Below w.heap.size w w') => rSign3_any s e 1 (h1.below hb) (by omega) he (by rw [sign_opn (by exact he)]; simp [h0, hs])
  have hL1 := fun w' (hb : Below w.heap.size w w') => rlong4_any s e (h1.below hb) (by omega)
  have hN1 := fun w' (hb : Below w.heap.size w w') => rNorm3_any s e (h1.below hb) (by omega) (by have := he.1; omega) (by have := he.2; omega)
  simp only [decide_eq_true he] at hM1
  have hb0 := nrm_e_may (s := s) h1.limbs (by omega) he
  have hb1 := nrm_len (s := s) (e := e) h1.limbs
  have zX : (nrm ⟨s, valL l, e⟩).m ≠ 0 := fun h => h0 ((nrm_m_zero _).1 h)
  rw [← rootD_nrm _ h0] at hW
  simp only [hX] at hN1 hb0 hb1 zX hW
  have lX : (limbs xm).length ≤ 100 := by omega
  have bX := lenN_of_len lX
  obtain ⟨M, hM⟩ : ∃ M, xm * 2 ^ 140 = M := ⟨_, rfl⟩
  obtain ⟨S, hS⟩ : ∃ S, isqN M = S := ⟨_, rfl⟩
  obtain ⟨L, hL⟩ : ∃ L, lenN M = L := ⟨_, rfl⟩
  have lM : lenN M ≤ lenN xm + 140 := by rw [← hM]; exact lenN_mul_pow _ _
  have hlM : (limbs M).length ≤ 103 := len_of_lenN (by omega)
  have hS64 : 64 ≤ lenN S := root_bits (U := 10) zX (by exact hM) hS
  have hSM : S ≤ M := by
    have := (isqN_spec M).1
    rw [hS] at this
    rcases Nat.eq_zero_or_pos S with h | h
    · omega
    · exact Nat.le_trans (Nat.le_mul_of_pos_right S h) this
  obtain ⟨V, hV⟩ : ∃ V, (xe - 140) / 2 = V := ⟨_, rfl⟩
  have hV2 : xe - 140 = 2 * V := by omega
  have hVt : (xe - 140).tdiv 2 = V := by rw [hV2]; exact Int.mul_tdiv_cancel_left V (by decide)
  obtain ⟨tm, htm⟩ : ∃ t, (xe - 140).tmod 2 = t := ⟨_, rfl⟩
  obtain rfl : tm = 0 := by rw [← htm, show xe - 140 = 2 * V by omega]; exact Int.mul_tmod_right 2 V
  have hlt : ∀ y : Bool, y = decide (S * S ≠ M) → roundN false (2 * S + y.toNat) (V - 1) = W := by
    rintro y rfl
    rw [← hW]
    have h := rootD_at ⟨xs, xm, xe⟩ 140 zX (by simp only; omega) (by simp only; omega)
    rw [← h]
    unfold rootR
    simp only
    rw [hM, hS, ← hV]
    rfl
  have HF := Lib.hid (And.intro hM (And.intro hlM (And.intro hS (And.intro hL (And.intro hS64 (And.intro hSM (And.intro lX (And.intro bX hlt))))))))
  have bL : (L : Int) ≤ 6600 := by omega
  have bL0 : (0 : Int) ≤ L := by omega
  have bE1 : -1000000 ≤ xe := by omega
  have bE2 : xe ≤ 1000000 := by omega
  have bV1 : -1000000 ≤ V := by omega
  have bV2 : V ≤ 1000000 := by omega
  clear hX hpar h1 he h0 hs hW hb0 hb1 zX lX bX hM hS hL lM hlM hS64 hSM hV hV2 hlt
  go_enter Tryz.func23, Tryz.ntmps23
  go_wp2_with fail
  refine (hM1 _ (by repeat' (first | exact Below.refl _ _ | refine below_alloc ?_ _))).mono ?_
  rintro x w1 ⟨rfl, hb⟩
  have X1 := X0.below hb
  have HB1 := below_step (w0 := w) (by (repeat' (first | exact Below.refl _ _ | assumption | (refine below_alloc ?_ _) | (refine Below.setCell ?_ ?_ _) | (refine Below.drew ?_) | (refine below_drewN ?_ _))) <;> (first | (simp; done) | (simp; omega) | omega)) hb
  clear hb X0 hM1
  obtain ⟨x0, x1, x2, _, _, _⟩ := id X1
  go_wp2_with fail
  refine (hS1 _ HB1).mono ?_
  rintro x w2 ⟨rfl, hb⟩
  have X2 := X1.below hb
  have HB2 := below_step HB1 hb
  clear hb X1 HB1 x0 x1 x2
  obtain ⟨x0, x1, x2, _, _, _⟩ := id X2
  go_wp2_with fail
  refine (hL1 _ HB2).mono ?_
  rintro x w3 ⟨rfl, hb⟩
  have X3 := X2.below hb
  have HB3 := below_step HB2 hb
  clear hb X2 HB2 x0 x1 x2
  obtain ⟨x0, x1, x2, _, _, _⟩ := id X3
  go_wp2_with fail
  refine (hS1 _ HB3).mono ?_
  rintro x w4 ⟨rfl, hb⟩
  have X4 := X3.below hb
  have HB4 := below_step HB3 hb
  clear hb X3 HB3 x0 x1 x2
  obtain ⟨x0, x1, x2, f0, f1, f2⟩ := id X4
  go_wp2_with fail
  refine (hN1 _ HB4).mono ?_
  rintro x w5 ⟨p1, q1, r1, rfl, M1, hb⟩
  have X5 := X4.below hb
  have HB5 := below_step HB4 hb
  obtain ⟨W5, hW5⟩ : ∃ W5, ((w5.setCell ⟨w.heap.size, 0, none⟩ (.bool xs)).setCell ⟨w.heap.size, 1, none⟩ (.slice p1 q1 r1)).setCell ⟨w.heap.size, 2, none⟩ (.int .i64 xe) = W5 := ⟨_, rfl⟩
  have X6 : Boxed3 W5 w.heap.size xs p1 q1 r1 xe := by rw [← hW5]; exact X5.fill ..
  have L1 : Num W5 p1 q1 r1 (limbs xm) := by rw [← hW5]; exact Num.fill X5 M1 ..
  have HB6 : Below w.heap.size w W5 := by rw [← hW5]; exact Below.fill3 HB5 (Nat.le_refl _) _ _ _
  have HW := Lib.hid hW5
  clear hb X4 HB4 x0 x1 x2 f0 f1 f2 hN1 M1 hW5
  obtain ⟨x0, x1, x2, f0, f1, f2⟩ := id X5
  go_wp2_with fail
  rw [HW.out]
  clear x0 x1 x2 f0 f1 f2 X5 HB5
  obtain ⟨x0, x1, x2, _, _, _⟩ := id X6
  have hSh := fun wx (h : Below W5.heap.size W5 wx) => rshl_v (e := 140) (L1.below h) (valL_limbs xm) HF.out.1 rfl (by have := HF.out.2.2.2.2.2.2.1; omega) (by omega)
  go_wp2_with fail
  refine (hSh _ (by repeat' (first | exact Below.refl _ _ | refine below_alloc ?_ _))).mono ?_
  rintro x w6 ⟨am, nm, cm, rfl, Mm, hb⟩
  have X7 := Lib.hid (X6.below hb)
  have HB7 := below_step HB6 hb
  have hBi := rbits_v Mm (valL_limbs M) HF.out.2.2.2.1 (by have := HF.out.2.1; omega)
  have MM := Lib.hid Mm
  clear hSh hb x0 x1 x2 X6 HB6 L1 Mm HW
  go_wp2_with fail
  refine hBi.mono ?_
  rintro x w7 ⟨rfl, hb⟩
  have X8 := Lib.hid (X7.out.below hb)
  have M8 := Lib.hid (MM.out.below hb)
  have HB8 := below_step HB7 hb
  clear hBi hb X7 HB7 MM
  obtain ⟨L2, hL2⟩ : ∃ q, L / 2 = q := ⟨_, rfl⟩
  have e2 : (L : Int) / 2 = (L2 : Int) := by omega
  have bL2 : (L2 : Int) ≤ 3300 := by omega
  have HL2 := Lib.hid hL2
  clear hL2
  go_wp2_with fail
  go_loopw [6, 7] (fun u v wr => ∃ (i : Nat) (xa : Option Addr) (xn xc : Nat), Hid (i ≤ L2 + 2) ∧ v = .int .i64 ((i : Int) - 1) ∧ u = .slice xa xn xc ∧ Hid (Num wr xa xn xc (limbs (S / 2 ^ i * 2 ^ i))) ∧ Hid (Below w7.heap.size w7 wr)) (fun _ v _ => (intOf v + 1).toNat)
  case atStart =>
    refine ⟨L2 + 2, none, 0, 0, Lib.hid (Nat.le_refl _), by go_num, rfl, Lib.hid ?_, Lib.hid (Below.refl _ _)⟩
    rw [← HF.out.2.2.1, isq_top M (L2 + 2) (by have := HF.out.2.2.2.1; have := HL2.out; omega), limbs_zero]
    exact Num.nil _
  case round =>
    obtain ⟨i, xa, xn, xc, hi, rfl, rfl, hN, hB⟩ := hrel
    by_cases hz : i = 0
    · subst hz
      have hN' := hN.out
      rw [Nat.pow_zero, Nat.div_one, Nat.mul_one] at hN'
      have hlS : (limbs S).length ≤ 103 := Nat.le_trans (length_mono HF.out.2.2.2.2.2.1) HF.out.2.1
      have hMu := rmul_v hN' hN' (valL_limbs S) (valL_limbs S) rfl (by omega)
      obtain ⟨Q, hQ⟩ : ∃ Q, S * S = Q := ⟨_, rfl⟩
      obtain ⟨z, hz⟩ : ∃ z, cmpN Q M = z := ⟨_, rfl⟩
      rw [hQ] at hMu
      have hlQ : (limbs Q).length ≤ 206 := by
        have := len_mul (limbs_limbs S) (limbs_limbs S)
        rw [valL_limbs, hQ] at this
        omega
      have hC := fun wx p q r (h : Below w7.heap.size w7 wx) (hn : Num wx p q r (limbs Q)) => rcmp_v hn (M8.out.below h) (valL_limbs Q) (valL_limbs M) hz (by omega) (by have := HF.out.2.1; omega)
      have hres : roundN false (2 * S + (decide (z < 0)).toNat) (V - 1) = W := by
        apply HF.out.2.2.2.2.2.2.2.2
        rw [← hz]
        have h := (isqN_spec M).1
        rw [HF.out.2.2.1, hQ] at h
        rw [hQ]
        unfold cmpN
        by_cases hlt : Q < M
        · rw [if_pos hlt, decide_eq_true (show Q ≠ M by omega)]; decide
        · rw [if_neg hlt, if_neg (by omega), decide_eq_false (show ¬ Q ≠ M by omega)]; decide
      have hR := fun wx (hn : Num wx xa xn xc (limbs S)) => rround4_any false S V (decide (z < 0)) hn HF.out.2.2.2.2.1 (by omega) (by omega) (by omega)
      rw [hres] at hR
      have HS := Lib.hid hN'
      clear hres hQ hlQ hlS hz hN' hi hN
      go_wp2_with fail
      refine hMu.mono ?_
      rintro x w8 ⟨a8, n8, c8, rfl, N8, hb⟩
      have HB9 := below_step hB.out hb
      have HS8 := Lib.hid (HS.out.below hb)
      have hC8 := hC _ _ _ _ HB9 N8
      clear hMu hb HS hC N8
      go_wp2_with fail
      refine hC8.mono ?_
      rintro x w9 ⟨rfl, hb⟩
      have HBa := below_step HB9 hb
      have HS9 := HS8.out.below hb
      obtain ⟨x0, x1, x2, _, _, _⟩ := id (X8.out.below HBa)
      have hR9 := hR _ HS9
      clear hC8 hb HS8 HS9 hR
      go_wp2_with fail
      refine hR9.mono ?_
      rintro x wa ⟨rfl, hb⟩
      have HBb := below_step HB8 (below_step HBa hb)
      clear hR9 hb
      go_wp2_with fail
      go_ret2
      exact ⟨rfl, HBb⟩
    · obtain ⟨j, rfl⟩ : ∃ j, i = j + 1 := ⟨i - 1, by omega⟩
      clear hz
      obtain ⟨Sj, hSj⟩ : ∃ Sj, S / 2 ^ (j + 1) * 2 ^ (j + 1) = Sj := ⟨_, rfl⟩
      have hst := isq_step M Sj j (by rw [HF.out.2.2.1]; exact hSj.symm)
      rw [HF.out.2.2.1] at hst
      have hN' := hN.out
      rw [hSj] at hN'
      have hSjS : Sj ≤ M := by
        rw [← hSj]
        exact Nat.le_trans (Nat.div_mul_le_self _ _) HF.out.2.2.2.2.2.1
      have hlS : (limbs Sj).length ≤ 103 := Nat.le_trans (length_mono hSjS) HF.out.2.1
      have hlP : (limbs (2 ^ j)).length ≤ 60 := len_of_lenN (Nat.le_trans (lenN_le (2 ^ j) (j + 1) (Nat.pow_lt_pow_right (by decide) (Nat.lt_succ_self j))) (by have := hi.out; omega))
      obtain ⟨P, hP⟩ : ∃ P, 2 ^ j = P := ⟨_, rfl⟩
      have hPw := fun wx => rpow2_n (w := wx) j (by have := hi.out; omega)
      simp only [hP] at hPw hlP hst
      obtain ⟨T, hT⟩ : ∃ T, Sj + P = T := ⟨_, rfl⟩
      have hlT : (limbs T).length ≤ 200 := by
        have := len_add (limbs_limbs Sj) (limbs_limbs P)
        rw [valL_limbs, valL_limbs, hT] at this
        omega
      obtain ⟨Q, hQ⟩ : ∃ Q, T * T = Q := ⟨_, rfl⟩
      have hlQ : (limbs Q).length ≤ 400 := by
        have := len_mul (limbs_limbs T) (limbs_limbs T)
        rw [valL_limbs, hQ] at this
        omega
      obtain ⟨z, hz⟩ : ∃ z, cmpN Q M = z := ⟨_, rfl⟩
      have hA := fun wx p q r (h : Below wr.heap.size wr wx) (hn : Num wx p q r (limbs P)) => radd_v (hN'.below h) hn (valL_limbs Sj) (valL_limbs P) hT (by omega)
      have hMu := fun wx p q r (hn : Num wx p q r (limbs T)) => rmul_v hn hn (valL_limbs T) (valL_limbs T) hQ (by omega)
      have hC := fun wx p q r (h : Below w7.heap.size w7 wx) (hn : Num wx p q r (limbs Q)) => rcmp_v hn (M8.out.below h) (valL_limbs Q) (valL_limbs M) hz (by omega) (by have := HF.out.2.1; omega)
      have hzz : (Q ≤ M → z ≤ 0) ∧ (M < Q → 0 < z) := by rw [← hz]; unfold cmpN; constructor <;> intro h <;> (repeat' split) <;> omega
      rw [hT, hQ] at hst
      have HST := Lib.hid hst
      have HN := Lib.hid hN'
      have HI := Lib.hid hi.out
      have HP := Lib.hid hP
      have hj4 : (j : Int) ≤ 4000 := by have := hi.out; omega
      clear hst hN' hSj hSjS hlS hlP hP hT hlT hQ hlQ hz hN hi
      go_wp2_with fail
      refine (hPw _).mono ?_
      rintro x w8 ⟨a8, n8, c8, rfl, N8, hb8⟩
      have hA8 := hA _ _ _ _ hb8 N8
      clear hA hPw N8
      go_wp2_with fail
      refine hA8.mono ?_
      rintro x w9 ⟨a9, n9, c9, rfl, N9, hb9⟩
      have hM9 := hMu _ _ _ _ N9
      have HB9 := below_step hb8 hb9
      have N9' := Lib.hid N9
      clear hA8 hMu N9 hb8 hb9
      go_wp2_with fail
      refine hM9.mono ?_
      rintro x wa ⟨aa, na, ca, rfl, Na, hba⟩
      have HBa := below_step HB9 hba
      have hCa := hC _ _ _ _ (below_step hB.out HBa) Na
      have NT := Lib.hid (N9'.out.below hba)
      clear hM9 hC Na hba HB9 N9'
      go_wp2_with fail
      refine hCa.mono ?_
      rintro x wb ⟨rfl, hbb⟩
      have HBb := Lib.hid (below_step hB.out (below_step HBa hbb))
      have NT' := Lib.hid (NT.out.below hbb)
      have NS' := Lib.hid (HN.out.below (below_step HBa hbb))
      clear hCa hbb HBa NT HN
      by_cases hle : Q ≤ M
      · have hz0 : z ≤ 0 := hzz.1 hle
        have HLE := Lib.hid hle
        clear hzz hle
        go_wp2_with fail
        go_roundw
        case rel =>
          refine ⟨j, _, _, _, Lib.hid (by have := HI.out; omega), by go_num, rfl, Lib.hid ?_, HBb⟩
          rw [HP.out, ← HST.out, if_pos HLE.out]
          exact NT'.out
        case measure => simp [intOf] <;> omega
      · have hz0 : 0 < z := hzz.2 (by omega)
        have HLE := Lib.hid hle
        clear hzz hle
        go_wp2_with fail
        go_roundw
        case rel =>
          refine ⟨j, _, _, _, Lib.hid (by have := HI.out; omega), by go_num, rfl, Lib.hid ?_, HBb⟩
          rw [HP.out, ← HST.out, if_neg HLE.out]
          exact NS'.out
        case measure => simp [intOf] <;> omega
set_option maxHeartbeats 8000000 in
set_option maxRecDepth 20000 in
theorem rRoot4_odd (s : Bool) (e : Int) (xs : Bool) (xm : Nat) (xe : Int) (hX : nrm ⟨s, valL l, e⟩ = ⟨xs, xm, xe⟩) (hpar : xe % 2 = 1) (h1 : Num w a n c l) (hl : l.length ≤ 100) (he : mayE e) (h0 : valL l ≠ 0) (hs : s = false) (W : Nat) (hW : rootD ⟨s, valL l, e⟩ = W) :
    Calls Tryz.prog 23 #[.agg #[.bool s, .slice a n c, .int .i64 e]] w fun z w' => z = .returned (.tuple #[.int .u64 (W : Int), .int .i64 0]) ∧ Below w.heap.size w w' := by
  have X0 := Boxed3.new w s a n c e 24 (g := w.heap.size) rfl
  have hM1 := fun w' (hb : Below w.heap.size w w') => rMay3_any s e (h1.below hb) (by omega)
  have hS1 := fun w' (hb : Below w.heap.size w w') => rSign3_any s e 1 (h1.below hb) (by omega) he (by rw [sign_opn (by exact he)]; simp [h0, hs])
  have hL1 := fun w' (hb : Below w.heap.size w w') => rlong4_any s e (h1.below hb) (by omega)
  have hN1 := fun w' (hb : Below w.heap.size w w') => rNorm3_any s e (h1.below hb) (by omega) (by have := he.1; omega) (by have := he.2; omega)
  simp only [decide_eq_true he] at hM1
  have hb0 := nrm_e_may (s := s) h1.limbs (by omega) he
  have hb1 := nrm_len (s := s) (e := e) h1.limbs
  have zX : (nrm ⟨s, valL l, e⟩).m ≠ 0 := fun h => h0 ((nrm_m_zero _).1 h)
  rw [← rootD_nrm _ h0] at hW
  simp only [hX] at hN1 hb0 hb1 zX hW
  have lX : (limbs xm).length ≤ 100 := by omega
  have bX := lenN_of_len lX
  obtain ⟨M, hM⟩ : ∃ M, xm * 2 ^ 141 = M := ⟨_, rfl⟩
  obtain ⟨S, hS⟩ : ∃ S, isqN M = S := ⟨_, rfl⟩
  obtain ⟨L, hL⟩ : ∃ L, lenN M = L := ⟨_, rfl⟩
  have lM : lenN M ≤ lenN xm + 141 := by rw [← hM]; exact lenN_mul_pow _ _
  have hlM : (limbs M).length ≤ 103 := len_of_lenN (by omega)
  have hS64 : 64 ≤ lenN S := root_bits (U := 11) zX (by exact hM) hS
  have hSM : S ≤ M := by
    have := (isqN_spec M).1
    rw [hS] at this
    rcases Nat.eq_zero_or_pos S with h | h
    · omega
    · exact Nat.le_trans (Nat.le_mul_of_pos_right S h) this
  obtain ⟨V, hV⟩ : ∃ V, (xe - 141) / 2 = V := ⟨_, rfl⟩
  have hV2 : xe - 141 = 2 * V := by omega
  have hVt : (xe - 141).tdiv 2 = V := by rw [hV2]; exact Int.mul_tdiv_cancel_left V (by decide)
  obtain ⟨tm, htm⟩ : ∃ t, (xe - 140).tmod 2 = t := ⟨_, rfl⟩
  have htm0 : tm ≠ 0 := by
    intro h
    rw [h] at htm
    have := Int.tmod_add_mul_tdiv (xe - 140) 2
    omega
  have hlt : ∀ y : Bool, y = decide (S * S ≠ M) → roundN false (2 * S + y.toNat) (V - 1) = W := by
    rintro y rfl
    rw [← hW]
    have h := rootD_at ⟨xs, xm, xe⟩ 141 zX (by simp only; omega) (by simp only; omega)
    rw [← h]
    unfold rootR
    simp only
    rw [hM, hS, ← hV]
    rfl
  have HF := Lib.hid (And.intro hM (And.intro hlM (And.intro hS (And.intro hL (And.intro hS64 (And.intro hSM (And.intro lX (And.intro bX hlt))))))))
  have bL : (L : Int) ≤ 6600 := by omega
  have bL0 : (0 : Int) ≤ L := by omega
  have bE1 : -1000000 ≤ xe := by omega
  have bE2 : xe ≤ 1000000 := by omega
  have bV1 : -1000000 ≤ V := by omega
  have bV2 : V ≤ 1000000 := by omega
  clear hX hpar h1 he h0 hs hW hb0 hb1 zX lX bX hM hS hL lM hlM hS64 hSM hV hV2 hlt
  go_enter Tryz.func23, Tryz.ntmps23
  go_wp2_with fail
  refine (hM1 _ (by repeat' (first | exact Below.refl _ _ | refine below_alloc ?_ _))).mono ?_
  rintro x w1 ⟨rfl, hb⟩
  have X1 := X0.below hb
  have HB1 := below_step (w0 := w) (by (repeat' (first | exact Below.refl _ _ | assumption | (refine below_alloc ?_ _) | (refine Below.setCell ?_ ?_ _) | (refine Below.drew ?_) | (refine below_drewN ?_ _))) <;> (first | (simp; done) | (simp; omega) | omega)) hb
  clear hb X0 hM1
  obtain ⟨x0, x1, x2, _, _, _⟩ := id X1
  go_wp2_with fail
  refine (hS1 _ HB1).mono ?_
  rintro x w2 ⟨rfl, hb⟩
  have X2 := X1.below hb
  have HB2 := below_step HB1 hb
  clear hb X1 HB1 x0 x1 x2
  obtain ⟨x0, x1, x2, _, _, _⟩ := id X2
  go_wp2_with fail
  refine (hL1 _ HB2).mono ?_
  rintro x w3 ⟨rfl, hb⟩
  have X3 := X2.below hb
  have HB3 := below_step HB2 hb
  clear hb X2 HB2 x0 x1 x2
  obtain ⟨x0, x1, x2, _, _, _⟩ := id X3
  go_wp2_with fail
  refine (hS1 _ HB3).mono ?_
  rintro x w4 ⟨rfl, hb⟩
  have X4 := X3.below hb
  have HB4 := below_step HB3 hb
  clear hb X3 HB3 x0 x1 x2
  obtain ⟨x0, x1, x2, f0, f1, f2⟩ := id X4
  go_wp2_with fail
  refine (hN1 _ HB4).mono ?_
  rintro x w5 ⟨p1, q1, r1, rfl, M1, hb⟩
  have X5 := X4.below hb
  have HB5 := below_step HB4 hb
  obtain ⟨W5, hW5⟩ : ∃ W5, ((w5.setCell ⟨w.heap.size, 0, none⟩ (.bool xs)).setCell ⟨w.heap.size, 1, none⟩ (.slice p1 q1 r1)).setCell ⟨w.heap.size, 2, none⟩ (.int .i64 xe) = W5 := ⟨_, rfl⟩
  have X6 : Boxed3 W5 w.heap.size xs p1 q1 r1 xe := by rw [← hW5]; exact X5.fill ..
  have L1 : Num W5 p1 q1 r1 (limbs xm) := by rw [← hW5]; exact Num.fill X5 M1 ..
  have HB6 : Below w.heap.size w W5 := by rw [← hW5]; exact Below.fill3 HB5 (Nat.le_refl _) _ _ _
  have HW := Lib.hid hW5
  clear hb X4 HB4 x0 x1 x2 f0 f1 f2 hN1 M1 hW5
  obtain ⟨x0, x1, x2, f0, f1, f2⟩ := id X5
  go_wp2_with fail
  rw [HW.out]
  clear x0 x1 x2 f0 f1 f2 X5 HB5
  obtain ⟨x0, x1, x2, _, _, _⟩ := id X6
  have hSh := fun wx (h : Below W5.heap.size W5 wx) => rshl_v (e := 141) (L1.below h) (valL_limbs xm) HF.out.1 rfl (by have := HF.out.2.2.2.2.2.2.1; omega) (by omega)
  go_wp2_with fail
  refine (hSh _ (by repeat' (first | exact Below.refl _ _ | refine below_alloc ?_ _))).mono ?_
  rintro x w6 ⟨am, nm, cm, rfl, Mm, hb⟩
  have X7 := Lib.hid (X6.below hb)
  have HB7 := below_step HB6 hb
  have hBi := rbits_v Mm (valL_limbs M) HF.out.2.2.2.1 (by have := HF.out.2.1; omega)
  have MM := Lib.hid Mm
  clear hSh hb x0 x1 x2 X6 HB6 L1 Mm HW
  go_wp2_with fail
  refine hBi.mono ?_
  rintro x w7 ⟨rfl, hb⟩
  have X8 := Lib.hid (X7.out.below hb)
  have M8 := Lib.hid (MM.out.below hb)
  have HB8 := below_step HB7 hb
  clear hBi hb X7 HB7 MM
  obtain ⟨L2, hL2⟩ : ∃ q, L / 2 = q := ⟨_, rfl⟩
  have e2 : (L : Int) / 2 = (L2 : Int) := by omega
  have bL2 : (L2 : Int) ≤ 3300 := by omega
  have HL2 := Lib.hid hL2
  clear hL2
  go_wp2_with fail
  go_loopw [6, 7] (fun u v wr => ∃ (i : Nat) (xa : Option Addr) (xn xc : Nat), Hid (i ≤ L2 + 2) ∧ v = .int .i64 ((i : Int) - 1) ∧ u = .slice xa xn xc ∧ Hid (Num wr xa xn xc (limbs (S / 2 ^ i * 2 ^ i))) ∧ Hid (Below w7.heap.size w7 wr)) (fun _ v _ => (intOf v + 1).toNat)
  case atStart =>
    refine ⟨L2 + 2, none, 0, 0, Lib.hid (Nat.le_refl _), by go_num, rfl, Lib.hid ?_, Lib.hid (Below.refl _ _)⟩
    rw [← HF.out.2.2.1, isq_top M (L2 + 2) (by have := HF.out.2.2.2.1; have := HL2.out; omega), limbs_zero]
    exact Num.nil _
  case round =>
    obtain ⟨i, xa, xn, xc, hi, rfl, rfl, hN, hB⟩ := hrel
    by_cases hz : i = 0
    · subst hz
      have hN' := hN.out
      rw [Nat.pow_zero, Nat.div_one, Nat.mul_one] at hN'
      have hlS : (limbs S).length ≤ 103 := Nat.le_trans (length_mono HF.out.2.2.2.2.2.1) HF.out.2.1
      have hMu := rmul_v hN' hN' (valL_limbs S) (valL_limbs S) rfl (by omega)
      obtain ⟨Q, hQ⟩ : ∃ Q, S * S = Q := ⟨_, rfl⟩
      obtain ⟨z, hz⟩ : ∃ z, cmpN Q M = z := ⟨_, rfl⟩
      rw [hQ] at hMu
      have hlQ : (limbs Q).length ≤ 206 := by
        have := len_mul (limbs_limbs S) (limbs_limbs S)
        rw [valL_limbs, hQ] at this
        omega
      have hC := fun wx p q r (h : Below w7.heap.size w7 wx) (hn : Num wx p q r (limbs Q)) => rcmp_v hn (M8.out.below h) (valL_limbs Q) (valL_limbs M) hz (by omega) (by have := HF.out.2.1; omega)
      have hres : roundN false (2 * S + (decide (z < 0)).toNat) (V - 1) = W := by
        apply HF.out.2.2.2.2.2.2.2.2
        rw [← hz]
        have h := (isqN_spec M).1
        rw [HF.out.2.2.1, hQ] at h
        rw [hQ]
        unfold cmpN
        by_cases hlt : Q < M
        · rw [if_pos hlt, decide_eq_true (show Q ≠ M by omega)]; decide
        · rw [if_neg hlt, if_neg (by omega), decide_eq_false (show ¬ Q ≠ M by omega)]; decide
      have hR := fun wx (hn : Num wx xa xn xc (limbs S)) => rround4_any false S V (decide (z < 0)) hn HF.out.2.2.2.2.1 (by omega) (by omega) (by omega)
      rw [hres] at hR
      have HS := Lib.hid hN'
      clear hres hQ hlQ hlS hz hN' hi hN
      go_wp2_with fail
      refine hMu.mono ?_
      rintro x w8 ⟨a8, n8, c8, rfl, N8, hb⟩
      have HB9 := below_step hB.out hb
      have HS8 := Lib.hid (HS.out.below hb)
      have hC8 := hC _ _ _ _ HB9 N8
      clear hMu hb HS hC N8
      go_wp2_with fail
      refine hC8.mono ?_
      rintro x w9 ⟨rfl, hb⟩
      have HBa := below_step HB9 hb
      have HS9 := HS8.out.below hb
      obtain ⟨x0, x1, x2, _, _, _⟩ := id (X8.out.below HBa)
      have hR9 := hR _ HS9
      clear hC8 hb HS8 HS9 hR
      go_wp2_with fail
      refine hR9.mono ?_
      rintro x wa ⟨rfl, hb⟩
      have HBb := below_step HB8 (below_step HBa hb)
      clear hR9 hb
      go_wp2_with fail
      go_ret2
      exact ⟨rfl, HBb⟩
    · obtain ⟨j, rfl⟩ : ∃ j, i = j + 1 := ⟨i - 1, by omega⟩
      clear hz
      obtain ⟨Sj, hSj⟩ : ∃ Sj, S / 2 ^ (j + 1) * 2 ^ (j + 1) = Sj := ⟨_, rfl⟩
      have hst := isq_step M Sj j (by rw [HF.out.2.2.1]; exact hSj.symm)
      rw [HF.out.2.2.1] at hst
      have hN' := hN.out
      rw [hSj] at hN'
      have hSjS : Sj ≤ M := by
        rw [← hSj]
        exact Nat.le_trans (Nat.div_mul_le_self _ _) HF.out.2.2.2.2.2.1
      have hlS : (limbs Sj).length ≤ 103 := Nat.le_trans (length_mono hSjS) HF.out.2.1
      have hlP : (limbs (2 ^ j)).length ≤ 60 := len_of_lenN (Nat.le_trans (lenN_le (2 ^ j) (j + 1) (Nat.pow_lt_pow_right (by decide) (Nat.lt_succ_self j))) (by have := hi.out; omega))
      obtain ⟨P, hP⟩ : ∃ P, 2 ^ j = P := ⟨_, rfl⟩
      have hPw := fun wx => rpow2_n (w := wx) j (by have := hi.out; omega)
      simp only [hP] at hPw hlP hst
      obtain ⟨T, hT⟩ : ∃ T, Sj + P = T := ⟨_, rfl⟩
      have hlT : (limbs T).length ≤ 200 := by
        have := len_add (limbs_limbs Sj) (limbs_limbs P)
        rw [valL_limbs, valL_limbs, hT] at this
        omega
      obtain ⟨Q, hQ⟩ : ∃ Q, T * T = Q := ⟨_, rfl⟩
      have hlQ : (limbs Q).length ≤ 400 := by
        have := len_mul (limbs_limbs T) (limbs_limbs T)
        rw [valL_limbs, hQ] at this
        omega
      obtain ⟨z, hz⟩ : ∃ z, cmpN Q M = z := ⟨_, rfl⟩
      have hA := fun wx p q r (h : Below wr.heap.size wr wx) (hn : Num wx p q r (limbs P)) => radd_v (hN'.below h) hn (valL_limbs Sj) (valL_limbs P) hT (by omega)
      have hMu := fun wx p q r (hn : Num wx p q r (limbs T)) => rmul_v hn hn (valL_limbs T) (valL_limbs T) hQ (by omega)
      have hC := fun wx p q r (h : Below w7.heap.size w7 wx) (hn : Num wx p q r (limbs Q)) => rcmp_v hn (M8.out.below h) (valL_limbs Q) (valL_limbs M) hz (by omega) (by have := HF.out.2.1; omega)
      have hzz : (Q ≤ M → z ≤ 0) ∧ (M < Q → 0 < z) := by rw [← hz]; unfold cmpN; constructor <;> intro h <;> (repeat' split) <;> omega
      rw [hT, hQ] at hst
      have HST := Lib.hid hst
      have HN := Lib.hid hN'
      have HI := Lib.hid hi.out
      have HP := Lib.hid hP
      have hj4 : (j : Int) ≤ 4000 := by have := hi.out; omega
      clear hst hN' hSj hSjS hlS hlP hP hT hlT hQ hlQ hz hN hi
      go_wp2_with fail
      refine (hPw _).mono ?_
      rintro x w8 ⟨a8, n8, c8, rfl, N8, hb8⟩
      have hA8 := hA _ _ _ _ hb8 N8
      clear hA hPw N8
      go_wp2_with fail
      refine hA8.mono ?_
      rintro x w9 ⟨a9, n9, c9, rfl, N9, hb9⟩
      have hM9 := hMu _ _ _ _ N9
      have HB9 := below_step hb8 hb9
      have N9' := Lib.hid N9
      clear hA8 hMu N9 hb8 hb9
      go_wp2_with fail
      refine hM9.mono ?_
      rintro x wa ⟨aa, na, ca, rfl, Na, hba⟩
      have HBa := below_step HB9 hba
      have hCa := hC _ _ _ _ (below_step hB.out HBa) Na
      have NT := Lib.hid (N9'.out.below hba)
      clear hM9 hC Na hba HB9 N9'
      go_wp2_with fail
      refine hCa.mono ?_
      rintro x wb ⟨rfl, hbb⟩
      have HBb := Lib.hid (below_step hB.out (below_step HBa hbb))
      have NT' := Lib.hid (NT.out.below hbb)
      have NS' := Lib.hid (HN.out.below (below_step HBa hbb))
      clear hCa hbb HBa NT HN
      by_cases hle : Q ≤ M
      · have hz0 : z ≤ 0 := hzz.1 hle
        have HLE := Lib.hid hle
        clear hzz hle
        go_wp2_with fail
        go_roundw
        case rel =>
          refine ⟨j, _, _, _, Lib.hid (by have := HI.out; omega), by go_num, rfl, Lib.hid ?_, HBb⟩
          rw [HP.out, ← HST.out, if_pos HLE.out]
          exact NT'.out
        case measure => simp [intOf] <;> omega
      · have hz0 : 0 < z := hzz.2 (by omega)
        have HLE := Lib.hid hle
        clear hzz hle
        go_wp2_with fail
        go_roundw
        case rel =>
          refine ⟨j, _, _, _, Lib.hid (by have := HI.out; omega), by go_num, rfl, Lib.hid ?_, HBb⟩
          rw [HP.out, ← HST.out, if_neg HLE.out]
          exact NS'.out
        case measure => simp [intOf] <;> omega
theorem rRoot4_any (s : Bool) (e : Int) (h1 : Num w a n c l) (hl : l.length ≤ 100) (W : Nat) (r : Int) (hO : rootO ⟨s, valL l, e⟩ = (W, r)) :
    Calls Tryz.prog 23 #[.agg #[.bool s, .slice a n c, .int .i64 e]] w fun z w' => z = .returned (.tuple #[.int .u64 (W : Int), .int .i64 r]) ∧ Below w.heap.size w w' := by
  unfold rootO at hO
  by_cases hm : mayE e
  · rw [if_pos hm] at hO
    by_cases h0 : valL l = 0
    · rw [if_pos h0] at hO
      obtain ⟨rfl, rfl⟩ := Prod.mk.inj hO
      exact rRoot4_nought s e h1 hl hm h0
    · rw [if_neg h0] at hO
      by_cases hs : s = true
      · rw [if_pos hs] at hO
        obtain ⟨rfl, rfl⟩ := Prod.mk.inj hO
        exact rRoot4_neg s e h1 hl hm h0 hs
      · rw [if_neg hs] at hO
        obtain ⟨hW, rfl⟩ := Prod.mk.inj hO
        obtain ⟨⟨xs, xm, xe⟩, hX⟩ : ∃ X, nrm ⟨s, valL l, e⟩ = X := ⟨_, rfl⟩
        have hs' : s = false := by cases s <;> simp_all
        by_cases hp : xe % 2 = 0
        · exact rRoot4_even s e xs xm xe hX hp h1 hl hm h0 hs' W hW
        · exact rRoot4_odd s e xs xm xe hX (by omega) h1 hl hm h0 hs' W hW
  · rw [if_neg hm] at hO
    obtain ⟨rfl, rfl⟩ := Prod.mk.inj hO
    exact rRoot4_bad s e h1 hl hm
end
end Go.Proofs.YtjlaadadbpffdaaGreatDoor
