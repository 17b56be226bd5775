/-
  nat.shl, Shl, Pow2.
-/
import Derived.Test.YtjfjkabmpiebpaaDoorNatI
set_option linter.unusedSimpArgs false
set_option linter.unusedVariables false
namespace Go.Plumb
open Go.RowKit
theorem shl_part (x r : Nat) (hr : r < 64) : x * 2 ^ r % 18446744073709551616 = x % 2 ^ (64 - r) * 2 ^ r := by
  rw [← pow_split r hr, Nat.mul_comm (2 ^ r), Nat.mul_mod_mul_right]
theorem shl_fits (q x r : Nat) (hr : r < 64) (hq : q < 2 ^ r) : q + x * 2 ^ r % 18446744073709551616 < 18446744073709551616 := by
  rw [shl_part x r hr]
  have h1 : x % 2 ^ (64 - r) + 1 ≤ 2 ^ (64 - r) := Nat.mod_lt _ (Nat.two_pow_pos _)
  have h2 := Nat.mul_le_mul_right (2 ^ r) h1
  rw [Nat.mul_comm (2 ^ (64 - r)), pow_split r hr, Nat.add_mul] at h2
  omega
theorem shl_low (q x r : Nat) (hr : r < 64) (hq : q < 2 ^ r) : bits .or .u64 (q : Int) (IntKind.u64.wrap ((x : Int) * 2 ^ r)) = ((q + x * 2 ^ r % 18446744073709551616 : Nat) : Int) := by
  have e1 : IntKind.u64.wrap ((x : Int) * 2 ^ r) = ((x * 2 ^ r % 18446744073709551616 : Nat) : Int) := by rw [IntKind.wrap_u64]; simp
  have hf := shl_fits q x r hr hq
  have e2 : ((x * 2 ^ r % 18446744073709551616 : Nat) : Int) % 2 ^ r = 0 := by
    rw [shl_part x r hr]
    simp
  have e3 : (q : Int) < 2 ^ r := by
    have h := Int.ofNat_lt.2 hq
    simpa using h
  rw [e1, or_comm64 (by omega) (by omega) (by omega) (by omega), or_join r (by omega) e2 (by omega) (by omega) e3 (by omega)]
  omega
theorem shl_high (x r : Nat) (hr : r < 64) : (x : Int) / 2 / 2 ^ (63 - r) = ((x * 2 ^ r / 18446744073709551616 : Nat) : Int) := by
  rw [← shl_hi x r hr]
  have : x / 2 / 2 ^ (63 - r) = x / 2 ^ (64 - r) := by
    rw [Nat.div_div_eq_div_mul, show 64 - r = (63 - r) + 1 by omega, Nat.pow_succ, Nat.mul_comm 2]
  rw [← this]
  simp
theorem shl_value (V n r k : Nat) (h1 : k / 64 = n) (h2 : k % 64 = r) : 18446744073709551616 ^ n * (V * 2 ^ r) = V * 2 ^ k := by
  rw [← pow64 k, h1, h2, ← Nat.mul_assoc, ← Nat.mul_assoc, Nat.mul_comm V]
end Go.Plumb
namespace Go.Proofs.YtjfjkabmpiebpaaDoor
open Go.RowKit Go.Plumb

/-- What holds at the head of each round of shl. -/
structure ShlRel (w : World) (g n r N : Nat) (la : List Nat) (i : Nat) (lo : List Nat) (wr : World) : Prop where
  len : lo.length = N
  limbs : Limbs lo
  val : valL lo = 18446744073709551616 ^ n * (valL (la.take i) * 2 ^ r)
  low : lo.getD (i + n) 0 < 2 ^ r
  zeros : ∀ j, i + n < j → lo.getD j 0 = 0
  own : OwnL wr w.heap.size (.slice (some ⟨g, 0, none⟩) N N) lo
  below : Below w.heap.size w wr
theorem ShlRel.step {w : World} {g n r N : Nat} {la : List Nat} {i : Nat} {lo : List Nat} {wr : World} (h : ShlRel w g n r N la i lo wr) (hg : w.heap.size ≤ g) (hr : r < 64) (hN : la.length + n + 1 = N) (hi : i < la.length) (x q : Nat) (hx : la.getD i 0 = x) (hq : lo.getD (i + n) 0 = q) (hxl : x < 18446744073709551616) :
    ShlRel w g n r N la (i + 1) ((lo.set (i + n) (q + x * 2 ^ r % 18446744073709551616)).set (i + n + 1) (x * 2 ^ r / 18446744073709551616)) (((wr.setCell ⟨g, i + n, none⟩ (.int .u64 (bits .or .u64 (q : Int) (IntKind.u64.wrap ((x : Int) * 2 ^ r))))).setCell ⟨g, i + n + 1, none⟩ (.int .u64 ((x : Int) / 2 / 2 ^ (63 - r)))).drew) := by
  obtain ⟨hlen, hlim, hval, hlow, hz, hown, hB⟩ := h
  rw [hq] at hlow
  have hf := shl_fits q x r hr hlow
  have s1 := shl_step lo (i + n) r x (q + x * 2 ^ r % 18446744073709551616) (x * 2 ^ r / 18446744073709551616) (by omega) (hz (i + n + 1) (by omega)) (by rw [hq]) rfl
  have hh : x * 2 ^ r / 18446744073709551616 < 2 ^ r := by
    rw [Nat.div_lt_iff_lt_mul (by decide), Nat.mul_comm]
    exact Nat.mul_lt_mul_of_pos_left hxl (Nat.two_pow_pos r)
  have h64 : (2 : Nat) ^ r ≤ 18446744073709551616 := by
    have := Nat.pow_le_pow_right (show 0 < 2 by decide) (show r ≤ 64 by omega)
    exact this
  refine ⟨by simp [hlen], (hlim.set _ _ hf).set _ _ (by omega), ?_, ?_, ?_, ?_, ((hB.setCell hg _).setCell hg _).drew⟩
  · rw [s1, hval, valL_take_any la i, hx, Nat.add_mul, Nat.mul_add, Nat.pow_add, Nat.mul_assoc (18446744073709551616 ^ i) x, ← Nat.mul_assoc (18446744073709551616 ^ n) (18446744073709551616 ^ i), Nat.mul_comm (18446744073709551616 ^ n) (18446744073709551616 ^ i)]
  · have : ((lo.set (i + n) (q + x * 2 ^ r % 18446744073709551616)).set (i + n + 1) (x * 2 ^ r / 18446744073709551616)).getD (i + 1 + n) 0 = x * 2 ^ r / 18446744073709551616 := by
      unfold List.getD
      rw [show i + 1 + n = i + n + 1 by omega, List.getElem?_set_self (by simp; omega)]; rfl
    rw [this]; exact hh
  · intro j hj
    have := hz j (by omega)
    unfold List.getD at this ⊢
    rw [List.getElem?_set_ne (by omega), List.getElem?_set_ne (by omega)]
    exact this
  · exact World.ownsRow.drew (OwnL.store (OwnL.store hown (i + n) _ _ (shl_low q x r hr hlow)) (i + n + 1) _ _ (shl_high x r hr))
set_option maxHeartbeats 4000000 in
theorem shl_core (a : Option Addr) (c k : Nat) (la : List Nat) (w : World) (hA : Arr w a c la) (h0 : 0 < la.length) (hl : la.length ≤ 10000) (hk : k ≤ 1000000) :
    Calls Tryd.prog 61 #[.slice a la.length c, .int .i64 (k : Int)] w fun e w' => ∃ g cap, e = .returned (.slice (some ⟨g, 0, none⟩) (limbs (valL la * 2 ^ k)).length cap) ∧ OwnL w' w.heap.size (.slice (some ⟨g, 0, none⟩) (limbs (valL la * 2 ^ k)).length cap) (limbs (valL la * 2 ^ k)) ∧ Below w.heap.size w w' := by
  obtain ⟨n1, hn1⟩ : ∃ n1, la.length = n1 := ⟨_, rfl⟩
  obtain ⟨n, hn⟩ : ∃ n, k / 64 = n := ⟨_, rfl⟩
  obtain ⟨r, hr⟩ : ∃ r, k % 64 = r := ⟨_, rfl⟩
  have hr64 : r < 64 := by omega
  have hnb : n ≤ 20000 := by omega
  have en : (k : Int) / 64 = (n : Int) := by omega
  have er : (k : Int) % 64 = (r : Int) := by omega
  obtain ⟨b1, o1, ea, hf⟩ := hA.at (List.length_pos_iff.1 h0)
  subst ea
  have HA : Hid (∀ wr, Below w.heap.size w wr → Arr wr (some ⟨b1, o1, none⟩) c la) := Lib.hid fun wr h => hA.below h
  have Hk := Lib.hid (show k / 64 = n ∧ k % 64 = r from ⟨hn, hr⟩)
  have Hn1 := Lib.hid hn1
  rw [hn1] at h0 hl ⊢
  have hmk : ∀ w, Sem.run Tryd.prog ((Instr.makeSlice 22 (.int .i64 ((n1 : Int) + n + 1)) (.int .i64 ((n1 : Int) + n + 1)))) w = .ok (.slice (some ⟨w.heap.size, 0, none⟩) (n1 + n + 1) (n1 + n + 1)) (w.alloc (.cells (zerosA (n1 + n + 1)) 36)) := fun w => by
    have := run_makeI ((n1 : Int) + n + 1) (by omega) (by omega) w
    rwa [show ((n1 : Int) + n + 1).toNat = n1 + n + 1 by omega] at this
  have Hb1 : Hid (b1 < w.heap.size) := Lib.hid (by have := cell_lt (hf 0 (by omega)); exact this)
  have hc0 : ((n1 : Int) == 0) = false := by simp; omega
  clear hA hf hn hr hn1
  go_enter Tryd.func61, Tryd.ntmps61
  go_wp2_with fail
  go_loopw [25] (fun v wr => ∃ (i : Nat) (lo : List Nat), i ≤ n1 ∧ v = .int .i64 (i : Int) ∧ Hid (ShlRel w w.heap.size n r (n1 + n + 1) la i lo wr)) (fun v _ => n1 - (intOf v).toNat)
  case atStart =>
    have ho := owns_zeros w w.heap.size (n1 + n + 1) (Nat.le_refl _) (by omega)
    refine ⟨0, List.replicate (n1 + n + 1) 0, Nat.zero_le _, rfl, Lib.hid ⟨by simp, Limbs.replicate _, by rw [valL_replicate]; simp [valL], ?_, fun j _ => by simp [List.getD, List.getElem?_replicate]; split <;> rfl, ?_, (Below.refl _ w).alloc (Nat.le_refl _) _⟩⟩
    · have : (List.replicate (n1 + n + 1) 0).getD (0 + n) 0 = 0 := by simp [List.getD, List.getElem?_replicate]; split <;> rfl
      rw [this]; exact Nat.two_pow_pos r
    · unfold OwnL
      rw [List.length_replicate]
      exact ho
  case round =>
    obtain ⟨i, lo, hi, rfl, hR⟩ := hrel
    by_cases hlt : i < n1
    · obtain ⟨b2, o2, ea, hc1⟩ := (HA.out wr hR.out.below).2.2.2 i (by have := Hn1.out; omega)
      cases ea
      obtain ⟨x, hx⟩ : ∃ x, la.getD i 0 = x := ⟨_, rfl⟩
      obtain ⟨q, hq⟩ : ∃ q, lo.getD (i + n) 0 = q := ⟨_, rfl⟩
      have hxl : x < 18446744073709551616 := by rw [← hx]; exact (HA.out wr hR.out.below).2.2.1.get i
      have hql : q < 18446744073709551616 := by rw [← hq]; exact hR.out.limbs.get _
      have hco : wr.cell? ⟨w.heap.size, i + n, none⟩ = some (.int .u64 (q : Int)) := by
        refine OwnL.cell hR.out.own (i + n) q ?_
        have h1 := hR.out.len
        rw [List.getElem?_eq_getElem (by omega), ← hq]
        simp [List.getD, show i + n < lo.length by omega]
      have hco2 : wr.cell? ⟨w.heap.size, i + n + 1, none⟩ = some (.int .u64 0) := by
        refine OwnL.cell hR.out.own (i + n + 1) 0 ?_
        have h1 := hR.out.len
        have h2 := hR.out.zeros (i + n + 1) (by omega)
        rw [List.getElem?_eq_getElem (by omega), ← h2]
        simp [List.getD, show i + n + 1 < lo.length by omega]
      have hfo := OwnL.thaw hR.out.own (i + n)
      have hfo2 := OwnL.thaw hR.out.own (i + n + 1)
      have HX := Lib.hid hx
      have HY := Lib.hid hq
      rw [hx] at hc1
      have hb1 : b1 < w.heap.size := Hb1.out
      have hne : b1 ≠ w.heap.size := by omega
      clear hx hq
      go_wp2_with fail
      go_region
      all_goals go_wp2_with fail
      go_roundw
      case rel => exact ⟨i + 1, _, by omega, by go_num, Lib.hid (ShlRel.step hR.out (Nat.le_refl _) hr64 (by rw [Hn1.out]) (by have := Hn1.out; omega) x q HX.out HY.out hxl)⟩
      case measure => simp [intOf]; omega
    · obtain rfl : i = n1 := by omega
      have hv := hR.out.val
      rw [show la.take i = la by rw [← Hn1.out, List.take_length], shl_value _ n r k Hk.out.1 Hk.out.2] at hv
      have hOw := hR.out.own
      rw [← hR.out.len] at hOw
      obtain ⟨a', c', e2, harr⟩ := OwnL.arr hOw hR.out.limbs
      simp only [Value.slice.injEq] at e2
      obtain ⟨rfl, e3, rfl⟩ := e2
      clear e3
      have hT := trim_any _ _ _ _ harr
      have hn := Arr.norm_take harr
      rw [hv] at hn
      rw [hR.out.len, hv] at hT
      rw [hR.out.len] at hOw
      have HOw := Lib.hid hOw
      have Hn := Lib.hid hn
      clear hv hOw harr hn
      go_wp2_with (go_at_call 60; (with_reducible refine hT.mono ?_); rintro e w' ⟨rfl, rfl⟩)
      go_ret
      refine ⟨_, _, rfl, ?_, hR.out.below⟩
      rw [← Hn.out]
      have h2 : OwnL wr w.heap.size (.slice (some ⟨w.heap.size, 0, none⟩) lo.length (i + n + 1)) lo := by rw [hR.out.len]; exact HOw.out
      exact OwnL.take_of h2 Hn.out
theorem shl_nil (a : Option Addr) (c : Nat) (k : Int) (w : World) :
    Calls Tryd.prog 61 #[.slice a 0 c, .int .i64 k] w fun e w' => e = .returned (.slice none 0 0) ∧ w = w' := by
  go_enter Tryd.func61, Tryd.ntmps61
  go_wp2_with fail
  go_ret
  exact ⟨rfl, rfl⟩
/-- nat.shl of a normal number. -/
theorem shl_any (a : Option Addr) (c k A : Nat) (w : World) (hA : Arr w a c (limbs A)) (hl : (limbs A).length ≤ 10000) (hk : k ≤ 1000000) :
    Calls Tryd.prog 61 #[.slice a (limbs A).length c, .int .i64 (k : Int)] w fun e w' => ∃ a' c', e = .returned (.slice a' (limbs (A * 2 ^ k)).length c') ∧ OwnL w' w.heap.size (.slice a' (limbs (A * 2 ^ k)).length c') (limbs (A * 2 ^ k)) ∧ Below w.heap.size w w' := by
  by_cases h0 : limbs A = []
  · have hA0 := (limbs_nil_iff A).1 h0
    subst hA0
    rw [limbs_zero, Nat.zero_mul, limbs_zero]
    refine (shl_nil a c k w).mono ?_
    rintro e w' ⟨rfl, rfl⟩
    exact ⟨none, 0, rfl, World.ownsRow_nil _ _ _ _, Below.refl _ _⟩
  · have h := shl_core a c k (limbs A) w hA (List.length_pos_iff.2 h0) hl hk
    rw [valL_limbs] at h
    refine h.mono ?_
    rintro e w' ⟨g, cap, he, ho, hb⟩
    exact ⟨_, cap, he, ho, hb⟩
theorem OwnL.arr' {w : World} {B : Nat} {a : Option Addr} {n c : Nat} {l : List Nat} (h : OwnL w B (.slice a n c) l) (hl : Limbs l) : Arr w a c l := by
  obtain ⟨a', c', e2, harr⟩ := OwnL.arr h hl
  simp only [Value.slice.injEq] at e2
  obtain ⟨rfl, _, rfl⟩ := e2
  exact harr
theorem open1_in (a : Option Addr) (c : Nat) (l : List Nat) (w : World) (hA : Arr w a c l) (hl : (limbs (valL l)).length ≤ 4096) :
    Calls Tryd.prog 49 #[.slice (some ⟨w.heap.size + 1, 0, none⟩) 1 1] ((w.alloc (.cells #[.slice a l.length c] 22)).alloc (.cells #[.pointer (some ⟨w.heap.size, 0, none⟩)] 62))
      fun e w' => e = .returned (.int .i64 0) ∧ (w.alloc (.cells #[.slice a (limbs (valL l)).length c] 22)).alloc (.cells #[.pointer (some ⟨w.heap.size, 0, none⟩)] 62) = w' := by
  have hB1 : Below w.heap.size w ((w.alloc (.cells #[.slice a l.length c] 22)).alloc (.cells #[.pointer (some ⟨w.heap.size, 0, none⟩)] 62)) := by (repeat' (first | exact Below.refl _ _ | assumption | (refine below_alloc ?_ _) | (refine Below.setCell ?_ ?_ _) | (refine Below.drew ?_) | (refine below_drewN ?_ _))) <;> (first | (simp; done) | (simp; omega) | omega)
  refine (open1_ok (w.heap.size + 1) w.heap.size a c l _ (by omega) (by simp [go_sem]) (by simp [go_sem]) (by simp [go_sem]) (hA.below hB1) hl).mono ?_
  rintro e w' ⟨rfl, rfl⟩
  exact ⟨rfl, by simp [go_sem]⟩
set_option maxHeartbeats 1000000 in
theorem Shl_neg (a : Option Addr) (c : Nat) (k : Int) (l : List Nat) (w : World) (hA : Arr w a c l) (hl : (limbs (valL l)).length ≤ 4096) (hk : k < 0) :
    Calls Tryd.prog 35 #[.slice a l.length c, .int .i64 k] w fun e w' => e = .returned (.tuple #[.slice none 0 0, .int .i64 2]) ∧ Below w.heap.size w w' := by
  go_enter Tryd.func35, Tryd.ntmps35
  go_wp2_with fail
  have hB1 : Below w.heap.size w ((w.alloc (.cells #[.slice a l.length c] 22)).alloc (.cells #[.pointer (some ⟨w.heap.size, 0, none⟩)] 62)) := by (repeat' (first | exact Below.refl _ _ | assumption | (refine below_alloc ?_ _) | (refine Below.setCell ?_ ?_ _) | (refine Below.drew ?_) | (refine below_drewN ?_ _))) <;> (first | (simp; done) | (simp; omega) | omega)
  refine (open1_ok (w.heap.size + 1) w.heap.size a c l _ (by omega) (by simp [go_sem]) (by simp [go_sem]) (by simp [go_sem]) (hA.below hB1) hl).mono ?_
  rintro e w' ⟨rfl, rfl⟩
  have hB2 : Below w.heap.size w ((w.alloc (.cells #[.slice a (limbs (valL l)).length c] 22)).alloc (.cells #[.pointer (some ⟨w.heap.size, 0, none⟩)] 62)) := by (repeat' (first | exact Below.refl _ _ | assumption | (refine below_alloc ?_ _) | (refine Below.setCell ?_ ?_ _) | (refine Below.drew ?_) | (refine below_drewN ?_ _))) <;> (first | (simp; done) | (simp; omega) | omega)
  go_wp2_with fail
  go_ret2
  exact ⟨rfl, hB2⟩
set_option maxHeartbeats 1000000 in
theorem Shl_far (a : Option Addr) (c : Nat) (k : Int) (l : List Nat) (w : World) (hA : Arr w a c l) (hl : (limbs (valL l)).length ≤ 4096) (h0 : 0 < (limbs (valL l)).length) (hk : 262144 ≤ k) :
    Calls Tryd.prog 35 #[.slice a l.length c, .int .i64 k] w fun e w' => e = .returned (.tuple #[.slice none 0 0, .int .i64 3]) ∧ Below w.heap.size w w' := by
  go_enter Tryd.func35, Tryd.ntmps35
  go_wp2_with fail
  have hB1 : Below w.heap.size w ((w.alloc (.cells #[.slice a l.length c] 22)).alloc (.cells #[.pointer (some ⟨w.heap.size, 0, none⟩)] 62)) := by (repeat' (first | exact Below.refl _ _ | assumption | (refine below_alloc ?_ _) | (refine Below.setCell ?_ ?_ _) | (refine Below.drew ?_) | (refine below_drewN ?_ _))) <;> (first | (simp; done) | (simp; omega) | omega)
  refine (open1_ok (w.heap.size + 1) w.heap.size a c l _ (by omega) (by simp [go_sem]) (by simp [go_sem]) (by simp [go_sem]) (hA.below hB1) hl).mono ?_
  rintro e w' ⟨rfl, rfl⟩
  have hB2 : Below w.heap.size w ((w.alloc (.cells #[.slice a (limbs (valL l)).length c] 22)).alloc (.cells #[.pointer (some ⟨w.heap.size, 0, none⟩)] 62)) := by (repeat' (first | exact Below.refl _ _ | assumption | (refine below_alloc ?_ _) | (refine Below.setCell ?_ ?_ _) | (refine Below.drew ?_) | (refine below_drewN ?_ _))) <;> (first | (simp; done) | (simp; omega) | omega)
  obtain ⟨n, hn⟩ : ∃ n, (limbs (valL l)).length = n := ⟨_, rfl⟩
  rw [hn] at h0 hl hB2 ⊢
  clear hn
  go_wp2_with fail
  go_ret2
  exact ⟨rfl, hB2⟩
set_option maxHeartbeats 1000000 in
theorem Shl_near (a : Option Addr) (c k : Nat) (l : List Nat) (w : World) (hA : Arr w a c l) (hl : (limbs (valL l)).length ≤ 4096) (hk : k < 262144 ∨ (limbs (valL l)).length = 0) (hk63 : k ≤ 9223372036854775807) :
    Calls Tryd.prog 35 #[.slice a l.length c, .int .i64 (k : Int)] w fun e w' => ∃ v x, e = .returned (.tuple #[v, x]) ∧ Done w' v x (valL l * 2 ^ k) ∧ Below w.heap.size w w' := by
  obtain ⟨w2, hw2⟩ : ∃ w2, ((w.alloc (.cells #[.slice a (limbs (valL l)).length c] 22)).alloc (.cells #[.pointer (some ⟨w.heap.size, 0, none⟩)] 62)) = w2 := ⟨_, rfl⟩
  have hB2 : Below w.heap.size w w2 := by rw [← hw2]; (repeat' (first | exact Below.refl _ _ | assumption | (refine below_alloc ?_ _) | (refine Below.setCell ?_ ?_ _) | (refine Below.drew ?_) | (refine below_drewN ?_ _))) <;> (first | (simp; done) | (simp; omega) | omega)
  have hAn := hA.norm.below hB2
  have hshl : Calls Tryd.prog 61 #[.slice a (limbs (valL l)).length c, .int .i64 (k : Int)] w2 fun e w' => ∃ a' c', e = .returned (.slice a' (limbs (valL l * 2 ^ k)).length c') ∧ OwnL w' w2.heap.size (.slice a' (limbs (valL l * 2 ^ k)).length c') (limbs (valL l * 2 ^ k)) ∧ Below w2.heap.size w2 w' := by
    rcases hk with hk | hk
    · exact shl_any a c k (valL l) w2 hAn (by omega) (by omega)
    · have hA0 := (limbs_nil_iff (valL l)).1 (List.length_eq_zero_iff.1 hk)
      rw [hA0, limbs_zero, Nat.zero_mul, limbs_zero]
      refine (shl_nil a c k w2).mono ?_
      rintro e w' ⟨rfl, rfl⟩
      exact ⟨none, 0, rfl, World.ownsRow_nil _ _ _ _, Below.refl _ _⟩
  have c1 : w2.cell? ⟨w.heap.size, 0, none⟩ = some (.slice a (limbs (valL l)).length c) := by rw [← hw2]; simp [go_sem]
  have hO := open1_in a c l w hA hl
  rw [hw2] at hO
  obtain ⟨n, hn⟩ : ∃ n, (limbs (valL l)).length = n := ⟨_, rfl⟩
  rw [hn] at hl hk hshl c1
  obtain ⟨N, hN⟩ : ∃ N, valL l * 2 ^ k = N := ⟨_, rfl⟩
  rw [hN] at hshl ⊢
  have HB2 := Lib.hid hB2
  clear hw2 hA hAn hB2 hn hN
  have hk' : (n = 0) ∨ (0 < n ∧ decide ((262144 : Int) ≤ (k : Int)) = false) := by
    rcases hk with h | h
    · by_cases h0 : n = 0
      · exact .inl h0
      · exact .inr ⟨by omega, by simp; omega⟩
    · exact .inl h
  clear hk
  rcases hk' with hk | ⟨hk, hk2⟩
  all_goals (try subst hk)
  all_goals go_enter Tryd.func35, Tryd.ntmps35
  all_goals go_wp2_with fail
  all_goals refine hO.mono ?_
  all_goals rintro e w' ⟨rfl, rfl⟩
  all_goals clear hO
  all_goals clear hk63
  all_goals go_wp2_with fail
  all_goals refine hshl.mono ?_
  all_goals rintro e w3 ⟨a', c', rfl, ho, hb3⟩
  all_goals (have harr := OwnL.arr' ho (limbs_limbs _); have hD := done_both _ _ _ _ harr; rw [valL_limbs] at hD; have HArr := Lib.hid harr; have HB3 := Lib.hid (below_step HB2.out hb3); clear ho hb3 harr hshl)
  all_goals go_wp2_with fail
  all_goals refine hD.mono ?_
  all_goals rintro e w4 ⟨rfl, rfl⟩
  all_goals go_wp2_with fail
  all_goals go_ret2
  all_goals exact ⟨_, _, rfl, Done.of HArr.out, HB3.out⟩
theorem powB (m : Nat) : (18446744073709551616 : Nat) ^ m = 2 ^ (64 * m) := by
  rw [Nat.pow_mul]
theorem two_pow_length (n : Nat) (A : Nat) (hA : A ≠ 0) (hn : 262144 ≤ n) : 4096 < (limbs (A * 2 ^ n)).length := by
  apply Nat.lt_of_not_le
  intro h
  have h1 := lt_pow_length (A * 2 ^ n)
  rw [powB] at h1
  have h4 := Nat.pow_le_pow_right (show 0 < 2 by decide) (show 64 * (limbs (A * 2 ^ n)).length ≤ n by omega)
  have h5 := Nat.mul_le_mul_right (2 ^ n) (show 1 ≤ A by omega)
  omega
/-- nat.Shl at every number that may be, at every power that is not below 0. -/
theorem Shl_any (a : Option Addr) (c k : Nat) (l : List Nat) (w : World) (hA : Arr w a c l) (hl : (limbs (valL l)).length ≤ 4096) (hk63 : k ≤ 9223372036854775807) :
    Calls Tryd.prog 35 #[.slice a l.length c, .int .i64 (k : Int)] w fun e w' => ∃ v x, e = .returned (.tuple #[v, x]) ∧ Done w' v x (valL l * 2 ^ k) ∧ Below w.heap.size w w' := by
  by_cases h : k < 262144 ∨ (limbs (valL l)).length = 0
  · exact Shl_near a c k l w hA hl h hk63
  · refine (Shl_far a c k l w hA hl (by omega) (by omega)).mono ?_
    rintro e w' ⟨rfl, hb⟩
    have hA0 : valL l ≠ 0 := fun e => by rw [e, limbs_zero] at h; simp at h
    have := two_pow_length k (valL l) hA0 (by omega)
    exact ⟨_, _, rfl, ⟨fun h1 => by omega, fun _ => ⟨rfl, rfl⟩⟩, hb⟩
theorem Pow2_any (k : Nat) (w : World) (hk63 : k ≤ 9223372036854775807) :
    Calls Tryd.prog 36 #[.int .i64 (k : Int)] w fun e w' => ∃ v x, e = .returned (.tuple #[v, x]) ∧ Done w' v x (2 ^ k) ∧ Below w.heap.size w w' := by
  have hO := nof_any 1 w (by decide)
  go_enter Tryd.func36, Tryd.ntmps36
  go_wp2_with fail
  refine hO.mono ?_
  rintro e w1 ⟨a, c, rfl, harr, hb⟩
  have hS := Shl_any a c k _ w1 harr (by rw [valL_limbs, limbs_pos (by decide), show 1 / 18446744073709551616 = 0 by decide, limbs_zero]; simp) hk63
  rw [valL_limbs, Nat.one_mul] at hS
  have HB := Lib.hid hb
  clear hO harr hb
  go_wp2_with fail
  refine hS.mono ?_
  rintro e w2 ⟨v, x, rfl, hd, hb2⟩
  have HD := Lib.hid hd
  have HB2 := Lib.hid (below_step HB.out hb2)
  clear hS hd hb2
  go_wp2_with fail
  go_ret2
  exact ⟨_, _, rfl, HD.out, HB2.out⟩
theorem Pow2_neg (k : Int) (w : World) (hk : k < 0) :
    Calls Tryd.prog 36 #[.int .i64 k] w fun e w' => e = .returned (.tuple #[.slice none 0 0, .int .i64 2]) ∧ Below w.heap.size w w' := by
  have hO := nof_any 1 w (by decide)
  go_enter Tryd.func36, Tryd.ntmps36
  go_wp2_with fail
  refine hO.mono ?_
  rintro e w1 ⟨a, c, rfl, harr, hb⟩
  have hS := Shl_neg a c k _ w1 harr (by rw [valL_limbs, limbs_pos (by decide), show 1 / 18446744073709551616 = 0 by decide, limbs_zero]; simp) hk
  have HB := Lib.hid hb
  clear hO harr hb
  go_wp2_with fail
  refine hS.mono ?_
  rintro e w2 ⟨rfl, hb2⟩
  have HB2 := Lib.hid (below_step HB.out hb2)
  clear hS hb2
  go_wp2_with fail
  go_ret2
  exact ⟨rfl, HB2.out⟩
end Go.Proofs.YtjfjkabmpiebpaaDoor
