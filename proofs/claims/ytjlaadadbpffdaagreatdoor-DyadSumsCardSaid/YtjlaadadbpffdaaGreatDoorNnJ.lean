/-
  NatJ, NatK: as one text.
-/
import Derived.Test.YtjlaadadbpffdaaGreatDoorNnF
set_option linter.unusedSimpArgs false
set_option linter.unusedVariables false
namespace Go.Plumb
open Go.RowKit
theorem shl_part (x r : Nat) (hr : r < 64) : x * 2 ^ r % 18446744073709551616 = x % 2 ^ (64 - r) * 2 ^ r := by
  rw [← pow_split r hr, Nat.mul_comm (2 ^ r), Nat.mul_mod_mul_right]
theorem shl_fits (q x r : Nat) (hr : r < 64) (hq : q < 2 ^ r) : q + x * 2 ^ r % 18446744073709551616 < 18446744073709551616 := by
  rw [shl_part x r hr]
  have h1 : x % 2 ^ (64 - r) + 1 ≤ 2 ^ (64 - r) := Nat.mod_lt _ (Nat.two_pow_pos _)
  have h2 := Nat.mul_le_mul_right (2 ^ r) h1
  rw [Nat.mul_comm (2 ^ (64 - r)), pow_split r hr, Nat.add_mul] at h2
  omega
theorem shl_low (q x r : Nat) (hr : r < 64) (hq : q < 2 ^ r) : bits .or .u64 (q : Int) (IntKind.u64.wrap ((x : Int) * 2 ^ r)) = ((q + x * 2 ^ r % 18446744073709551616 : Nat) : Int) := by
  have e1 : IntKind.u64.wrap ((x : Int) * 2 ^ r) = ((x * 2 ^ r % 18446744073709551616 : Nat) : Int) := by rw [IntKind.wrap_u64]; simp
  have hf := shl_fits q x r hr hq
  have e2 : ((x * 2 ^ r % 18446744073709551616 : Nat) : Int) % 2 ^ r = 0 := by
    rw [shl_part x r hr]
    simp
  have e3 : (q : Int) < 2 ^ r := by
    have h := Int.ofNat_lt.2 hq
    simpa using h
  rw [e1, or_comm64 (by omega) (by omega) (by omega) (by omega), or_join r (by omega) e2 (by omega) (by omega) e3 (by omega)]
  omega
theorem shl_high (x r : Nat) (hr : r < 64) : (x : Int) / 2 / 2 ^ (63 - r) = ((x * 2 ^ r / 18446744073709551616 : Nat) : Int) := by
  rw [← shl_hi x r hr]
  have : x / 2 / 2 ^ (63 - r) = x / 2 ^ (64 - r) := by
    rw [Nat.div_div_eq_div_mul, show 64 - r = (63 - r) + 1 by omega, Nat.pow_succ, Nat.mul_comm 2]
  rw [← this]
  simp
theorem shl_value (V n r k : Nat) (h1 : k / 64 = n) (h2 : k % 64 = r) : 18446744073709551616 ^ n * (V * 2 ^ r) = V * 2 ^ k := by
  rw [← pow64 k, h1, h2, ← Nat.mul_assoc, ← Nat.mul_assoc, Nat.mul_comm V]
end Go.Plumb
namespace Go.Proofs.YtjlaadadbpffdaaGreatDoor
open Go.RowKit Go.Plumb

/-- What holds at the head of each round of shl. -/
structure ShlRel (w : World) (g n r N : Nat) (la : List Nat) (i : Nat) (lo : List Nat) (wr : World) : Prop where
  len : lo.length = N
  limbs : Limbs lo
  val : valL lo = 18446744073709551616 ^ n * (valL (la.take i) * 2 ^ r)
  low : lo.getD (i + n) 0 < 2 ^ r
  zeros : ∀ j, i + n < j → lo.getD j 0 = 0
  own : OwnL wr w.heap.size (.slice (some ⟨g, 0, none⟩) N N) lo
  below : Below w.heap.size w wr
theorem ShlRel.step {w : World} {g n r N : Nat} {la : List Nat} {i : Nat} {lo : List Nat} {wr : World} (h : ShlRel w g n r N la i lo wr) (hg : w.heap.size ≤ g) (hr : r < 64) (hN : la.length + n + 1 = N) (hi : i < la.length) (x q : Nat) (hx : la.getD i 0 = x) (hq : lo.getD (i + n) 0 = q) (hxl : x < 18446744073709551616) :
    ShlRel w g n r N la (i + 1) ((lo.set (i + n) (q + x * 2 ^ r % 18446744073709551616)).set (i + n + 1) (x * 2 ^ r / 18446744073709551616)) (((wr.setCell ⟨g, i + n, none⟩ (.int .u64 (bits .or .u64 (q : Int) (IntKind.u64.wrap ((x : Int) * 2 ^ r))))).setCell ⟨g, i + n + 1, none⟩ (.int .u64 ((x : Int) / 2 / 2 ^ (63 - r)))).drew) := by
  obtain ⟨hlen, hlim, hval, hlow, hz, hown, hB⟩ := h
  rw [hq] at hlow
  have hf := shl_fits q x r hr hlow
  have s1 := shl_step lo (i + n) r x (q + x * 2 ^ r % 18446744073709551616) (x * 2 ^ r / 18446744073709551616) (by omega) (hz (i + n + 1) (by omega)) (by rw [hq]) rfl
  have hh : x * 2 ^ r / 18446744073709551616 < 2 ^ r := by
    rw [Nat.div_lt_iff_lt_mul (by decide), Nat.mul_comm]
    exact Nat.mul_lt_mul_of_pos_left hxl (Nat.two_pow_pos r)
  have h64 : (2 : Nat) ^ r ≤ 18446744073709551616 := by
    have := Nat.pow_le_pow_right (show 0 < 2 by decide) (show r ≤ 64 by omega)
    exact this
  refine ⟨by simp [hlen], (hlim.set _ _ hf).set _ _ (by omega), ?_, ?_, ?_, ?_, ((hB.setCell hg _).setCell hg _).drew⟩
  · rw [s1, hval, valL_take_any la i, hx, Nat.add_mul, Nat.mul_add, Nat.pow_add, Nat.mul_assoc (18446744073709551616 ^ i) x, ← Nat.mul_assoc (18446744073709551616 ^ n) (18446744073709551616 ^ i), Nat.mul_comm (18446744073709551616 ^ n) (18446744073709551616 ^ i)]
  · have : ((lo.set (i + n) (q + x * 2 ^ r % 18446744073709551616)).set (i + n + 1) (x * 2 ^ r / 18446744073709551616)).getD (i + 1 + n) 0 = x * 2 ^ r / 18446744073709551616 := by
      unfold List.getD
      rw [show i + 1 + n = i + n + 1 by omega, List.getElem?_set_self (by simp; omega)]; rfl
    rw [this]; exact hh
  · intro j hj
    have := hz j (by omega)
    unfold List.getD at this ⊢
    rw [List.getElem?_set_ne (by omega), List.getElem?_set_ne (by omega)]
    exact this
  · exact World.ownsRow.drew (OwnL.store (OwnL.store hown (i + n) _ _ (shl_low q x r hr hlow)) (i + n + 1) _ _ (shl_high x r hr))
set_option maxHeartbeats 4000000 in
theorem shl_core (a : Option Addr) (c k : Nat) (la : List Nat) (w : World) (hA : Arr w a c la) (h0 : 0 < la.length) (hl : la.length ≤ 10000) (hk : k ≤ 1000000) :
    Calls Tryz.prog 137 #[.slice a la.length c, .int .i64 (k : Int)] w fun e w' => ∃ g cap, e = .returned (.slice (some ⟨g, 0, none⟩) (limbs (valL la * 2 ^ k)).length cap) ∧ OwnL w' w.heap.size (.slice (some ⟨g, 0, none⟩) (limbs (valL la * 2 ^ k)).length cap) (limbs (valL la * 2 ^ k)) ∧ Below w.heap.size w w' := by
  obtain ⟨n1, hn1⟩ : ∃ n1, la.length = n1 := ⟨_, rfl⟩
  obtain ⟨n, hn⟩ : ∃ n, k / 64 = n := ⟨_, rfl⟩
  obtain ⟨r, hr⟩ : ∃ r, k % 64 = r := ⟨_, rfl⟩
  have hr64 : r < 64 := by omega
  have hnb : n ≤ 20000 := by omega
  have en : (k : Int) / 64 = (n : Int) := by omega
  have er : (k : Int) % 64 = (r : Int) := by omega
  obtain ⟨b1, o1, ea, hf⟩ := hA.at (List.length_pos_iff.1 h0)
  subst ea
  have HA : Hid (∀ wr, Below w.heap.size w wr → Arr wr (some ⟨b1, o1, none⟩) c la) := Lib.hid fun wr h => hA.below h
  have Hk := Lib.hid (show k / 64 = n ∧ k % 64 = r from ⟨hn, hr⟩)
  have Hn1 := Lib.hid hn1
  rw [hn1] at h0 hl ⊢
  have hmk : ∀ w, Sem.run Tryz.prog ((Instr.makeSlice 22 (.int .i64 ((n1 : Int) + n + 1)) (.int .i64 ((n1 : Int) + n + 1)))) w = .ok (.slice (some ⟨w.heap.size, 0, none⟩) (n1 + n + 1) (n1 + n + 1)) (w.alloc (.cells (zerosA (n1 + n + 1)) 31)) := fun w => by
    have := run_makeI ((n1 : Int) + n + 1) (by omega) (by omega) w
    rwa [show ((n1 : Int) + n + 1).toNat = n1 + n + 1 by omega] at this
  have Hb1 : Hid (b1 < w.heap.size) := Lib.hid (by have := cell_lt (hf 0 (by omega)); exact this)
  have hc0 : ((n1 : Int) == 0) = false := by simp; omega
  clear hA hf hn hr hn1
  go_enter Tryz.func137, Tryz.ntmps137
  go_wp2_with fail
  go_loopw [25] (fun v wr => ∃ (i : Nat) (lo : List Nat), i ≤ n1 ∧ v = .int .i64 (i : Int) ∧ Hid (ShlRel w w.heap.size n r (n1 + n + 1) la i lo wr)) (fun v _ => n1 - (intOf v).toNat)
  case atStart =>
    have ho := owns_zeros w w.heap.size (n1 + n + 1) (Nat.le_refl _) (by omega)
    refine ⟨0, List.replicate (n1 + n + 1) 0, Nat.zero_le _, rfl, Lib.hid ⟨by simp, Limbs.replicate _, by rw [valL_replicate]; simp [valL], ?_, fun j _ => by simp [List.getD, List.getElem?_replicate]; split <;> rfl, ?_, (Below.refl _ w).alloc (Nat.le_refl _) _⟩⟩
    · have : (List.replicate (n1 + n + 1) 0).getD (0 + n) 0 = 0 := by simp [List.getD, List.getElem?_replicate]; split <;> rfl
      rw [this]; exact Nat.two_pow_pos r
    · unfold OwnL
      rw [List.length_replicate]
      exact ho
  case round =>
    obtain ⟨i, lo, hi, rfl, hR⟩ := hrel
    by_cases hlt : i < n1
    · obtain ⟨b2, o2, ea, hc1⟩ := (HA.out wr hR.out.below).2.2.2 i (by have := Hn1.out; omega)
      cases ea
      obtain ⟨x, hx⟩ : ∃ x, la.getD i 0 = x := ⟨_, rfl⟩
      obtain ⟨q, hq⟩ : ∃ q, lo.getD (i + n) 0 = q := ⟨_, rfl⟩
      have hxl : x < 18446744073709551616 := by rw [← hx]; exact (HA.out wr hR.out.below).2.2.1.get i
      have hql : q < 18446744073709551616 := by rw [← hq]; exact hR.out.limbs.get _
      have hco : wr.cell? ⟨w.heap.size, i + n, none⟩ = some (.int .u64 (q : Int)) := by
        refine OwnL.cell hR.out.own (i + n) q ?_
        have h1 := hR.out.len
        rw [List.getElem?_eq_getElem (by omega), ← hq]
        simp [List.getD, show i + n < lo.length by omega]
      have hco2 : wr.cell? ⟨w.heap.size, i + n + 1, none⟩ = some (.int .u64 0) := by
        refine OwnL.cell hR.out.own (i + n + 1) 0 ?_
        have h1 := hR.out.len
        have h2 := hR.out.zeros (i + n + 1) (by omega)
        rw [List.getElem?_eq_getElem (by omega), ← h2]
        simp [List.getD, show i + n + 1 < lo.length by omega]
      have hfo := OwnL.thaw hR.out.own (i + n)
      have hfo2 := OwnL.thaw hR.out.own (i + n + 1)
      have HX := Lib.hid hx
      have HY := Lib.hid hq
      rw [hx] at hc1
      have hb1 : b1 < w.heap.size := Hb1.out
      have hne : b1 ≠ w.heap.size := by omega
      clear hx hq
      go_wp2_with fail
      go_region
      all_goals go_wp2_with fail
      go_roundw
      case rel => exact ⟨i + 1, _, by omega, by go_num, Lib.hid (ShlRel.step hR.out (Nat.le_refl _) hr64 (by rw [Hn1.out]) (by have := Hn1.out; omega) x q HX.out HY.out hxl)⟩
      case measure => simp [intOf]; omega
    · obtain rfl : i = n1 := by omega
      have hv := hR.out.val
      rw [show la.take i = la by rw [← Hn1.out, List.take_length], shl_value _ n r k Hk.out.1 Hk.out.2] at hv
      have hOw := hR.out.own
      rw [← hR.out.len] at hOw
      obtain ⟨a', c', e2, harr⟩ := OwnL.arr hOw hR.out.limbs
      simp only [Value.slice.injEq] at e2
      obtain ⟨rfl, e3, rfl⟩ := e2
      clear e3
      have hT := trim_any _ _ _ _ harr
      have hn := Arr.norm_take harr
      rw [hv] at hn
      rw [hR.out.len, hv] at hT
      rw [hR.out.len] at hOw
      have HOw := Lib.hid hOw
      have Hn := Lib.hid hn
      clear hv hOw harr hn
      go_wp2_with (go_at_call 143; (with_reducible refine hT.mono ?_); rintro e w' ⟨rfl, rfl⟩)
      go_ret
      refine ⟨_, _, rfl, ?_, hR.out.below⟩
      rw [← Hn.out]
      have h2 : OwnL wr w.heap.size (.slice (some ⟨w.heap.size, 0, none⟩) lo.length (i + n + 1)) lo := by rw [hR.out.len]; exact HOw.out
      exact OwnL.take_of h2 Hn.out
theorem shl_nil (a : Option Addr) (c : Nat) (k : Int) (w : World) :
    Calls Tryz.prog 137 #[.slice a 0 c, .int .i64 k] w fun e w' => e = .returned (.slice none 0 0) ∧ w = w' := by
  go_enter Tryz.func137, Tryz.ntmps137
  go_wp2_with fail
  go_ret
  exact ⟨rfl, rfl⟩
/-- nat.shl of a normal number. -/
theorem shl_any (a : Option Addr) (c k A : Nat) (w : World) (hA : Arr w a c (limbs A)) (hl : (limbs A).length ≤ 10000) (hk : k ≤ 1000000) :
    Calls Tryz.prog 137 #[.slice a (limbs A).length c, .int .i64 (k : Int)] w fun e w' => ∃ a' c', e = .returned (.slice a' (limbs (A * 2 ^ k)).length c') ∧ OwnL w' w.heap.size (.slice a' (limbs (A * 2 ^ k)).length c') (limbs (A * 2 ^ k)) ∧ Below w.heap.size w w' := by
  by_cases h0 : limbs A = []
  · have hA0 := (limbs_nil_iff A).1 h0
    subst hA0
    rw [limbs_zero, Nat.zero_mul, limbs_zero]
    refine (shl_nil a c k w).mono ?_
    rintro e w' ⟨rfl, rfl⟩
    exact ⟨none, 0, rfl, World.ownsRow_nil _ _ _ _, Below.refl _ _⟩
  · have h := shl_core a c k (limbs A) w hA (List.length_pos_iff.2 h0) hl hk
    rw [valL_limbs] at h
    refine h.mono ?_
    rintro e w' ⟨g, cap, he, ho, hb⟩
    exact ⟨_, cap, he, ho, hb⟩
theorem OwnL.arr' {w : World} {B : Nat} {a : Option Addr} {n c : Nat} {l : List Nat} (h : OwnL w B (.slice a n c) l) (hl : Limbs l) : Arr w a c l := by
  obtain ⟨a', c', e2, harr⟩ := OwnL.arr h hl
  simp only [Value.slice.injEq] at e2
  obtain ⟨rfl, _, rfl⟩ := e2
  exact harr
theorem open1_in (a : Option Addr) (c : Nat) (l : List Nat) (w : World) (hA : Arr w a c l) (hl : (limbs (valL l)).length ≤ 4096) :
    Calls Tryz.prog 134 #[.slice (some ⟨w.heap.size + 1, 0, none⟩) 1 1] ((w.alloc (.cells #[.slice a l.length c] 22)).alloc (.cells #[.pointer (some ⟨w.heap.size, 0, none⟩)] 135))
      fun e w' => e = .returned (.int .i64 0) ∧ (w.alloc (.cells #[.slice a (limbs (valL l)).length c] 22)).alloc (.cells #[.pointer (some ⟨w.heap.size, 0, none⟩)] 135) = w' := by
  have hB1 : Below w.heap.size w ((w.alloc (.cells #[.slice a l.length c] 22)).alloc (.cells #[.pointer (some ⟨w.heap.size, 0, none⟩)] 135)) := by (repeat' (first | exact Below.refl _ _ | assumption | (refine below_alloc ?_ _) | (refine Below.setCell ?_ ?_ _) | (refine Below.drew ?_) | (refine below_drewN ?_ _))) <;> (first | (simp; done) | (simp; omega) | omega)
  refine (open1_ok (w.heap.size + 1) w.heap.size a c l _ (by omega) (by simp [go_sem]) (by simp [go_sem]) (by simp [go_sem]) (hA.below hB1) hl).mono ?_
  rintro e w' ⟨rfl, rfl⟩
  exact ⟨rfl, by simp [go_sem]⟩
set_option maxHeartbeats 1000000 in
theorem Shl_neg (a : Option Addr) (c : Nat) (k : Int) (l : List Nat) (w : World) (hA : Arr w a c l) (hl : (limbs (valL l)).length ≤ 4096) (hk : k < 0) :
    Calls Tryz.prog 78 #[.slice a l.length c, .int .i64 k] w fun e w' => e = .returned (.tuple #[.slice none 0 0, .int .i64 2]) ∧ Below w.heap.size w w' := by
  go_enter Tryz.func78, Tryz.ntmps78
  go_wp2_with fail
  have hB1 : Below w.heap.size w ((w.alloc (.cells #[.slice a l.length c] 22)).alloc (.cells #[.pointer (some ⟨w.heap.size, 0, none⟩)] 135)) := by (repeat' (first | exact Below.refl _ _ | assumption | (refine below_alloc ?_ _) | (refine Below.setCell ?_ ?_ _) | (refine Below.drew ?_) | (refine below_drewN ?_ _))) <;> (first | (simp; done) | (simp; omega) | omega)
  refine (open1_ok (w.heap.size + 1) w.heap.size a c l _ (by omega) (by simp [go_sem]) (by simp [go_sem]) (by simp [go_sem]) (hA.below hB1) hl).mono ?_
  rintro e w' ⟨rfl, rfl⟩
  have hB2 : Below w.heap.size w ((w.alloc (.cells #[.slice a (limbs (valL l)).length c] 22)).alloc (.cells #[.pointer (some ⟨w.heap.size, 0, none⟩)] 135)) := by (repeat' (first | exact Below.refl _ _ | assumption | (refine below_alloc ?_ _) | (refine Below.setCell ?_ ?_ _) | (refine Below.drew ?_) | (refine below_drewN ?_ _))) <;> (first | (simp; done) | (simp; omega) | omega)
  go_wp2_with fail
  go_ret2
  exact ⟨rfl, hB2⟩
set_option maxHeartbeats 1000000 in
theorem Shl_far (a : Option Addr) (c : Nat) (k : Int) (l : List Nat) (w : World) (hA : Arr w a c l) (hl : (limbs (valL l)).length ≤ 4096) (h0 : 0 < (limbs (valL l)).length) (hk : 262144 ≤ k) :
    Calls Tryz.prog 78 #[.slice a l.length c, .int .i64 k] w fun e w' => e = .returned (.tuple #[.slice none 0 0, .int .i64 3]) ∧ Below w.heap.size w w' := by
  go_enter Tryz.func78, Tryz.ntmps78
  go_wp2_with fail
  have hB1 : Below w.heap.size w ((w.alloc (.cells #[.slice a l.length c] 22)).alloc (.cells #[.pointer (some ⟨w.heap.size, 0, none⟩)] 135)) := by (repeat' (first | exact Below.refl _ _ | assumption | (refine below_alloc ?_ _) | (refine Below.setCell ?_ ?_ _) | (refine Below.drew ?_) | (refine below_drewN ?_ _))) <;> (first | (simp; done) | (simp; omega) | omega)
  refine (open1_ok (w.heap.size + 1) w.heap.size a c l _ (by omega) (by simp [go_sem]) (by simp [go_sem]) (by simp [go_sem]) (hA.below hB1) hl).mono ?_
  rintro e w' ⟨rfl, rfl⟩
  have hB2 : Below w.heap.size w ((w.alloc (.cells #[.slice a (limbs (valL l)).length c] 22)).alloc (.cells #[.pointer (some ⟨w.heap.size, 0, none⟩)] 135)) := by (repeat' (first | exact Below.refl _ _ | assumption | (refine below_alloc ?_ _) | (refine Below.setCell ?_ ?_ _) | (refine Below.drew ?_) | (refine below_drewN ?_ _))) <;> (first | (simp; done) | (simp; omega) | omega)
  obtain ⟨n, hn⟩ : ∃ n, (limbs (valL l)).length = n := ⟨_, rfl⟩
  rw [hn] at h0 hl hB2 ⊢
  clear hn
  go_wp2_with fail
  go_ret2
  exact ⟨rfl, hB2⟩
set_option maxHeartbeats 1000000 in
theorem Shl_near (a : Option Addr) (c k : Nat) (l : List Nat) (w : World) (hA : Arr w a c l) (hl : (limbs (valL l)).length ≤ 4096) (hk : k < 262144 ∨ (limbs (valL l)).length = 0) (hk63 : k ≤ 9223372036854775807) :
    Calls Tryz.prog 78 #[.slice a l.length c, .int .i64 (k : Int)] w fun e w' => ∃ v x, e = .returned (.tuple #[v, x]) ∧ Done w' v x (valL l * 2 ^ k) ∧ Below w.heap.size w w' := by
  obtain ⟨w2, hw2⟩ : ∃ w2, ((w.alloc (.cells #[.slice a (limbs (valL l)).length c] 22)).alloc (.cells #[.pointer (some ⟨w.heap.size, 0, none⟩)] 135)) = w2 := ⟨_, rfl⟩
  have hB2 : Below w.heap.size w w2 := by rw [← hw2]; (repeat' (first | exact Below.refl _ _ | assumption | (refine below_alloc ?_ _) | (refine Below.setCell ?_ ?_ _) | (refine Below.drew ?_) | (refine below_drewN ?_ _))) <;> (first | (simp; done) | (simp; omega) | omega)
  have hAn := hA.norm.below hB2
  have hshl : Calls Tryz.prog 137 #[.slice a (limbs (valL l)).length c, .int .i64 (k : Int)] w2 fun e w' => ∃ a' c', e = .returned (.slice a' (limbs (valL l * 2 ^ k)).length c') ∧ OwnL w' w2.heap.size (.slice a' (limbs (valL l * 2 ^ k)).length c') (limbs (valL l * 2 ^ k)) ∧ Below w2.heap.size w2 w' := by
    rcases hk with hk | hk
    · exact shl_any a c k (valL l) w2 hAn (by omega) (by omega)
    · have hA0 := (limbs_nil_iff (valL l)).1 (List.length_eq_zero_iff.1 hk)
      rw [hA0, limbs_zero, Nat.zero_mul, limbs_zero]
      refine (shl_nil a c k w2).mono ?_
      rintro e w' ⟨rfl, rfl⟩
      exact ⟨none, 0, rfl, World.ownsRow_nil _ _ _ _, Below.refl _ _⟩
  have c1 : w2.cell? ⟨w.heap.size, 0, none⟩ = some (.slice a (limbs (valL l)).length c) := by rw [← hw2]; simp [go_sem]
  have hO := open1_in a c l w hA hl
  rw [hw2] at hO
  obtain ⟨n, hn⟩ : ∃ n, (limbs (valL l)).length = n := ⟨_, rfl⟩
  rw [hn] at hl hk hshl c1
  obtain ⟨N, hN⟩ : ∃ N, valL l * 2 ^ k = N := ⟨_, rfl⟩
  rw [hN] at hshl ⊢
  have HB2 := Lib.hid hB2
  clear hw2 hA hAn hB2 hn hN
  have hk' : (n = 0) ∨ (0 < n ∧ decide ((262144 : Int) ≤ (k : Int)) = false) := by
    rcases hk with h | h
    · by_cases h0 : n = 0
      · exact .inl h0
      · exact .inr ⟨by omega, by simp; omega⟩
    · exact .inl h
  clear hk
  rcases hk' with hk | ⟨hk, hk2⟩
  all_goals (try subst hk)
  all_goals go_enter Tryz.func78, Tryz.ntmps78
  all_goals go_wp2_with fail
  all_goals refine hO.mono ?_
  all_goals rintro e w' ⟨rfl, rfl⟩
  all_goals clear hO
  all_goals clear hk63
  all_goals go_wp2_with fail
  all_goals refine hshl.mono ?_
  all_goals rintro e w3 ⟨a', c', rfl, ho, hb3⟩
  all_goals (have harr := OwnL.arr' ho (limbs_limbs _); have hD := done_both _ _ _ _ harr; rw [valL_limbs] at hD; have HArr := Lib.hid harr; have HB3 := Lib.hid (below_step HB2.out hb3); clear ho hb3 harr hshl)
  all_goals go_wp2_with fail
  all_goals refine hD.mono ?_
  all_goals rintro e w4 ⟨rfl, rfl⟩
  all_goals go_wp2_with fail
  all_goals go_ret2
  all_goals exact ⟨_, _, rfl, Done.of HArr.out, HB3.out⟩
theorem powB (m : Nat) : (18446744073709551616 : Nat) ^ m = 2 ^ (64 * m) := by
  rw [Nat.pow_mul]
theorem two_pow_length (n : Nat) (A : Nat) (hA : A ≠ 0) (hn : 262144 ≤ n) : 4096 < (limbs (A * 2 ^ n)).length := by
  apply Nat.lt_of_not_le
  intro h
  have h1 := lt_pow_length (A * 2 ^ n)
  rw [powB] at h1
  have h4 := Nat.pow_le_pow_right (show 0 < 2 by decide) (show 64 * (limbs (A * 2 ^ n)).length ≤ n by omega)
  have h5 := Nat.mul_le_mul_right (2 ^ n) (show 1 ≤ A by omega)
  omega
/-- nat.Shl at every number that may be, at every power that is not below 0. -/
theorem Shl_any (a : Option Addr) (c k : Nat) (l : List Nat) (w : World) (hA : Arr w a c l) (hl : (limbs (valL l)).length ≤ 4096) (hk63 : k ≤ 9223372036854775807) :
    Calls Tryz.prog 78 #[.slice a l.length c, .int .i64 (k : Int)] w fun e w' => ∃ v x, e = .returned (.tuple #[v, x]) ∧ Done w' v x (valL l * 2 ^ k) ∧ Below w.heap.size w w' := by
  by_cases h : k < 262144 ∨ (limbs (valL l)).length = 0
  · exact Shl_near a c k l w hA hl h hk63
  · refine (Shl_far a c k l w hA hl (by omega) (by omega)).mono ?_
    rintro e w' ⟨rfl, hb⟩
    have hA0 : valL l ≠ 0 := fun e => by rw [e, limbs_zero] at h; simp at h
    have := two_pow_length k (valL l) hA0 (by omega)
    exact ⟨_, _, rfl, ⟨fun h1 => by omega, fun _ => ⟨rfl, rfl⟩⟩, hb⟩
end Go.Proofs.YtjlaadadbpffdaaGreatDoor

namespace Go.Plumb
open Go.RowKit
/-- Is one of the first j limbs not nought? -/
def anyN (l : List Nat) : Nat → Bool
  | 0 => false
  | j + 1 => anyN l j || decide (l.getD j 0 ≠ 0)
theorem anyN_false (l : List Nat) (n : Nat) : anyN l n = false ↔ ∀ j, j < n → l.getD j 0 = 0 := by
  induction n with
  | zero => simp [anyN]
  | succ n ih =>
    simp only [anyN, Bool.or_eq_false_iff, ih, decide_eq_false_iff_not, Decidable.not_not]
    constructor
    · rintro ⟨h1, h2⟩ j hj
      by_cases e : j = n
      · rw [e]; exact h2
      · exact h1 j (by omega)
    · intro h
      exact ⟨fun j hj => h j (by omega), h n (by omega)⟩
end Go.Plumb
namespace Go.Proofs.YtjlaadadbpffdaaGreatDoor
open Go.RowKit Go.Plumb

theorem shr_far (a : Option Addr) (c k n1 : Nat) (w : World) (hk : k ≤ 9223372036854775807) (h : n1 ≤ k / 64) :
    Calls Tryz.prog 144 #[.slice a n1 c, .int .i64 (k : Int)] w fun e w' => e = .returned (.tuple #[.slice none 0 0, .bool (decide (0 < n1))]) ∧ w = w' := by
  have h1 : (n1 : Int) ≤ (k : Int) / 64 := by omega
  have h2 : decide ((n1 : Int) ≤ (k : Int) / 64) = true := by simpa using h1
  have h3 : (0 : Int) ≤ (k : Int) % 64 := by omega
  go_enter Tryz.func144, Tryz.ntmps144
  go_wp2_with fail
  go_ret2
  exact ⟨by simp, rfl⟩
/-- What holds at the head of each round of shr. -/
structure ShrRel (w : World) (g n r N : Nat) (la : List Nat) (i : Nat) (wr : World) : Prop where
  own : OwnL wr w.heap.size (.slice (some ⟨g, 0, none⟩) N N) (fillL ((shrL r (la.drop n)).take i) N)
  below : Below w.heap.size w wr
theorem ShrRel.zero {w : World} {g n r N : Nat} {la : List Nat} {i : Nat} {wr : World} (h : ShrRel w g n r N la i wr) (hi : i < N) (hN : la.length = n + N) : wr.cell? ⟨g, i, none⟩ = some (.int .u64 0) := by
  have hl : ((shrL r (la.drop n)).take i).length = i := by rw [List.length_take, shrL_length, List.length_drop]; omega
  refine OwnL.cell h.own i 0 ?_
  have := fillL_at ((shrL r (la.drop n)).take i) N (by omega)
  rwa [hl] at this
theorem ShrRel.step {w : World} {g n r N : Nat} {la : List Nat} {i : Nat} {wr wx : World} (h : ShrRel w g n r N la i wr) (hg : w.heap.size ≤ g) (hi : i < N) (hN : la.length = n + N) (x y : Nat) (hx : la.getD (i + n) 0 = x) (hy : la.getD (i + n + 1) 0 = y)
    (ho : OwnL wx w.heap.size (.slice (some ⟨g, 0, none⟩) N N) ((fillL ((shrL r (la.drop n)).take i) N).set i (x / 2 ^ r + y * 2 ^ (64 - r) % 18446744073709551616))) (hb : Below w.heap.size w wx) : ShrRel w g n r N la (i + 1) wx := by
  have hl : ((shrL r (la.drop n)).take i).length = i := by rw [List.length_take, shrL_length, List.length_drop]; omega
  have e := fillL_set ((shrL r (la.drop n)).take i) N (x / 2 ^ r + y * 2 ^ (64 - r) % 18446744073709551616) (by omega)
  rw [hl] at e
  rw [e] at ho
  refine ⟨?_, hb⟩
  have hs := shrL_get r (la.drop n) i (by rw [List.length_drop]; omega)
  rw [getD_drop, getD_drop, show n + i = i + n by omega, show n + (i + 1) = i + n + 1 by omega, hx, hy] at hs
  have hlt : i < (shrL r (la.drop n)).length := by rw [shrL_length, List.length_drop]; omega
  rw [List.take_succ_eq_append_getElem hlt]
  have hg' : (shrL r (la.drop n))[i] = x / 2 ^ r + y * 2 ^ (64 - r) % 18446744073709551616 := by
    rw [← hs]; simp [List.getD, hlt]
  rw [hg']
  exact ho
theorem shr_or (x y r : Nat) (hr : r < 64) (hx : x < 18446744073709551616) : bits .or .u64 ((x : Int) / 2 ^ r) (IntKind.u64.wrap (IntKind.u64.wrap ((y : Int) * 2) * 2 ^ (63 - r))) = ((x / 2 ^ r + y * 2 ^ (64 - r) % 18446744073709551616 : Nat) : Int) := by
  have hs : 64 - (64 - r) = r := by omega
  have hq : x / 2 ^ r < 2 ^ (64 - r) := by
    rw [Nat.div_lt_iff_lt_mul (Nat.two_pow_pos r), Nat.mul_comm, pow_split r hr]; exact hx
  by_cases h0 : r = 0
  · subst h0
    have e1 : IntKind.u64.wrap (IntKind.u64.wrap ((y : Int) * 2) * 2 ^ (63 - 0)) = 0 := by
      rw [IntKind.wrap_u64, IntKind.wrap_u64]; omega
    rw [e1]
    simp only [Nat.pow_zero, Nat.div_one, Nat.sub_zero]
    have e2 : y * 2 ^ 64 % 18446744073709551616 = 0 := Nat.mul_mod_left _ _
    rw [e2]
    have := or_join 0 (x := (x : Int) / 2 ^ 0) (y := 0) (by simp) (by simp [Int.emod_one]) (by simpa using by omega) (Int.le_refl _) (by decide) (by decide)
    rw [this]; simp
  · have e1 : IntKind.u64.wrap (IntKind.u64.wrap ((y : Int) * 2) * 2 ^ (63 - r)) = IntKind.u64.wrap ((y : Int) * 2 ^ (64 - r)) := by
      rw [IntKind.wrap_u64, IntKind.wrap_u64, IntKind.wrap_u64, Int.mul_emod, Int.emod_emod, ← Int.mul_emod, Int.mul_assoc, show 64 - r = 63 - r + 1 by omega, Int.pow_succ, Int.mul_comm 2]
    have e0 : (x : Int) / 2 ^ r = ((x / 2 ^ r : Nat) : Int) := by simp
    rw [e0, e1]
    exact shl_low (x / 2 ^ r) y (64 - r) (by omega) hq
set_option maxHeartbeats 4000000 in
theorem shr_core (a : Option Addr) (c k : Nat) (la : List Nat) (w : World) (hA : Arr w a c la) (hl : la.length ≤ 10000) (hk : k / 64 < la.length) :
    Calls Tryz.prog 144 #[.slice a la.length c, .int .i64 (k : Int)] w fun e w' => ∃ g cap, e = .returned (.tuple #[.slice (some ⟨g, 0, none⟩) (limbs (valL la / 2 ^ k)).length cap, .bool (decide (valL la % 2 ^ k ≠ 0))]) ∧ OwnL w' w.heap.size (.slice (some ⟨g, 0, none⟩) (limbs (valL la / 2 ^ k)).length cap) (limbs (valL la / 2 ^ k)) ∧ Below w.heap.size w w' := by
  obtain ⟨n1, hn1⟩ : ∃ n1, la.length = n1 := ⟨_, rfl⟩
  obtain ⟨n, hn⟩ : ∃ n, k / 64 = n := ⟨_, rfl⟩
  obtain ⟨r, hr⟩ : ∃ r, k % 64 = r := ⟨_, rfl⟩
  have hr64 : r < 64 := by omega
  have en : (k : Int) / 64 = (n : Int) := by omega
  have er : (k : Int) % 64 = (r : Int) := by omega
  obtain ⟨b1, o1, ea, hf⟩ := hA.at (by intro h; rw [h] at hk; simp at hk)
  subst ea
  have HA : Hid (∀ wr, Below w.heap.size w wr → Arr wr (some ⟨b1, o1, none⟩) c la) := Lib.hid fun wr h => hA.below h
  have Hk := Lib.hid (show k / 64 = n ∧ k % 64 = r from ⟨hn, hr⟩)
  have Hn1 := Lib.hid hn1
  have Hb1 : Hid (b1 < w.heap.size) := Lib.hid (by have := cell_lt (hf 0 (by omega)); exact this)
  rw [hn1] at hl hk ⊢
  rw [hn] at hk
  have hcap : n1 ≤ c := by have := hA.1; omega
  have hcn := hf n (by omega)
  obtain ⟨t, ht⟩ : ∃ t, la.getD n 0 = t := ⟨_, rfl⟩
  rw [ht] at hcn
  have htl : t < 18446744073709551616 := by rw [← ht]; exact hA.2.2.1.get n
  have Ht := Lib.hid ht
  have hmk : ∀ w, Sem.run Tryz.prog ((Instr.makeSlice 22 (.int .i64 ((n1 : Int) - n)) (.int .i64 ((n1 : Int) - n)))) w = .ok (.slice (some ⟨w.heap.size, 0, none⟩) (n1 - n) (n1 - n)) (w.alloc (.cells (zerosA (n1 - n)) 31)) := fun w => by
    have := run_makeI ((n1 : Int) - n) (by omega) (by omega) w
    rwa [show ((n1 : Int) - n).toNat = n1 - n by omega] at this
  have hnk : (n : Int) < (n1 : Int) := by omega
  have h64 : (2 : Nat) ^ r < 18446744073709551616 := by
    have := Nat.pow_lt_pow_right (show 1 < 2 by decide) hr64
    exact this
  have h64p : 0 < (2 : Nat) ^ r := Nat.two_pow_pos r
  have ep : ((2 : Int) ^ r) = ((2 ^ r : Nat) : Int) := by simp
  have hw1 : IntKind.u64.wrap ((2 : Int) ^ r) = (2 : Int) ^ r := by rw [IntKind.wrap_u64, ep]; omega
  have hw2 : IntKind.u64.wrap ((2 : Int) ^ r - 1) = (2 : Int) ^ r - 1 := by rw [IntKind.wrap_u64, ep]; omega
  obtain ⟨b0, hb0, hb1⟩ : ∃ b0 : Bool, (bits .and .u64 (t : Int) (2 ^ r - 1) != 0) = b0 ∧ (b0 = false ↔ t % 2 ^ r = 0) := by
    refine ⟨_, rfl, ?_⟩
    rw [and_mask r (by omega) (by omega) (by omega), ep]
    simp only [bne_eq_false_iff_eq]
    omega
  have HB0 := Lib.hid hb1
  have hnle : decide (n1 ≤ n) = false := by simp; omega
  clear h64 h64p ep hb1
  have hp1 : (0 : Int) ≤ (n : Int) := by omega
  clear hA hf hn hr hn1 ht
  go_enter Tryz.func144, Tryz.ntmps144
  go_wp2_with fail
  go_loopw [8, 38] (fun u v wr => ∃ (j : Nat) (bl : Bool), j ≤ n ∧ u = .bool bl ∧ v = .int .i64 (j : Int) ∧ Hid (bl = (b0 || anyN la j)) ∧ w = wr) (fun _ v _ => n - (intOf v).toNat)
  case atStart => exact ⟨0, b0, Nat.zero_le _, rfl, rfl, Lib.hid (by simp [anyN]), rfl⟩
  case round =>
    obtain ⟨j, bl, hj, rfl, rfl, hbl, rfl⟩ := hrel
    by_cases hlt : j < n
    · obtain ⟨b2, o2, ea, hc1⟩ := (HA.out _ (Below.refl _ _)).2.2.2 j (by have := Hn1.out; omega)
      cases ea
      obtain ⟨x, hx⟩ : ∃ x, la.getD j 0 = x := ⟨_, rfl⟩
      rw [hx] at hc1
      have HX := Lib.hid hx
      clear hx
      cases bl
      · by_cases hx0 : x = 0
        · go_wp2_with fail
          go_roundw
          case rel => exact ⟨j + 1, false, by omega, rfl, by go_num, Lib.hid (by simp only [anyN]; rw [← Bool.or_assoc, ← hbl.out, HX.out, hx0]; rfl), trivial⟩
          case measure => simp [intOf]; omega
        · have hxb : ((x : Int) != 0) = true := by simp; omega
          go_wp2_with fail
          go_roundw
          case rel => exact ⟨j + 1, true, by omega, rfl, by go_num, Lib.hid (by simp only [anyN]; rw [← Bool.or_assoc, ← hbl.out, HX.out]; simp [hx0]), trivial⟩
          case measure => simp [intOf]; omega
      · go_wp2_with fail
        go_roundw
        case rel => exact ⟨j + 1, true, by omega, rfl, by go_num, Lib.hid (by simp only [anyN]; rw [← Bool.or_assoc, ← hbl.out]; rfl), trivial⟩
        case measure => simp [intOf]; omega
    · obtain rfl : n = j := by omega
      go_wp2_with fail
      have hsz : Hid (Below w.heap.size w w) := Lib.hid (Below.refl _ _)
      go_loopw [55] (fun v wr => ∃ i : Nat, i ≤ n1 - n ∧ v = .int .i64 (i : Int) ∧ Hid (ShrRel w w.heap.size n r (n1 - n) la i wr)) (fun v _ => n1 - n - (intOf v).toNat)
      case atStart =>
        have ho := owns_zeros w w.heap.size (n1 - n) (Nat.le_refl _) (by omega)
        refine ⟨0, Nat.zero_le _, rfl, Lib.hid ⟨?_, (Below.refl _ w).alloc (Nat.le_refl _) _⟩⟩
        rw [List.take_zero, fillL_nil]
        unfold OwnL
        rw [List.length_replicate]
        exact ho
      case round =>
        obtain ⟨i, hi, rfl, hR⟩ := hrel
        by_cases hlt2 : i < n1 - n
        · obtain ⟨b2, o2, ea, hc1⟩ := (HA.out wr hR.out.below).2.2.2 (i + n) (by have := Hn1.out; omega)
          cases ea
          obtain ⟨x, hx⟩ : ∃ x, la.getD (i + n) 0 = x := ⟨_, rfl⟩
          have hxl : x < 18446744073709551616 := by rw [← hx]; exact (HA.out wr hR.out.below).2.2.1.get _
          rw [hx] at hc1
          have HX := Lib.hid hx
          have hco : wr.cell? ⟨w.heap.size, i, none⟩ = some (.int .u64 0) := hR.out.zero hlt2 (by have := Hn1.out; omega)
          have hfo := OwnL.thaw hR.out.own i
          have hb1 : b1 < w.heap.size := Hb1.out
          have hne : b1 ≠ w.heap.size := by omega
          by_cases hin : i + n + 1 < n1
          · obtain ⟨b2, o2, ea, hc2⟩ := (HA.out wr hR.out.below).2.2.2 (i + n + 1) (by have := Hn1.out; omega)
            cases ea
            obtain ⟨y, hy⟩ : ∃ y, la.getD (i + n + 1) 0 = y := ⟨_, rfl⟩
            rw [hy] at hc2
            have HY := Lib.hid hy
            clear hx hy
            go_wp2_with fail
            go_region
            all_goals go_wp2_with fail
            go_roundw
            case rel =>
              refine ⟨i + 1, by omega, by go_num, Lib.hid (ShrRel.step hR.out (Nat.le_refl _) hlt2 (by have := Hn1.out; omega) x y HX.out HY.out ?_ ((hR.out.below.setCell (Nat.le_refl _) _).setCell (Nat.le_refl _) _).drew)⟩
              have h := World.ownsRow.drew (OwnL.store (OwnL.store hR.out.own i (x / 2 ^ r) ((x : Int) / 2 ^ r) (by simp)) i _ _ (shr_or x y r hr64 hxl))
              rw [List.set_set] at h
              exact h
            case measure => simp [intOf]; omega
          · have hy0 : la.getD (i + n + 1) 0 = 0 := by simp [List.getD, List.getElem?_eq_none (show la.length ≤ i + n + 1 by have := Hn1.out; omega)]
            have HY := Lib.hid hy0
            clear hx hy0
            go_wp2_with fail
            go_roundw
            case rel =>
              refine ⟨i + 1, by omega, by go_num, Lib.hid (ShrRel.step hR.out (Nat.le_refl _) hlt2 (by have := Hn1.out; omega) x 0 HX.out HY.out ?_ (hR.out.below.setCell (Nat.le_refl _) _))⟩
              exact OwnL.store hR.out.own i _ _ (by simp)
            case measure => simp [intOf]; omega
        · obtain rfl : i = n1 - n := by omega
          have hall : (shrL r (la.drop n)).take (n1 - n) = shrL r (la.drop n) := List.take_of_length_le (by rw [shrL_length, List.length_drop]; have := Hn1.out; omega)
          have hOw := hR.out.own
          rw [hall] at hOw
          have hlen : (shrL r (la.drop n)).length = n1 - n := by rw [shrL_length, List.length_drop]; have := Hn1.out; omega
          have hfull := fillL_full (shrL r (la.drop n))
          rw [hlen] at hfull
          rw [hfull] at hOw
          have hLim : Limbs (shrL r (la.drop n)) := shrL_limbs r hr64 ((HA.out w (Below.refl _ _)).2.2.1.drop n)
          have hv : valL (shrL r (la.drop n)) = valL la / 2 ^ k := by
            have h := shr_value la k (HA.out w (Below.refl _ _)).2.2.1 (by have := Hk.out.1; have := Hn1.out; omega)
            rwa [Hk.out.1, Hk.out.2] at h
          have harr := OwnL.arr' (by rw [← hlen] at hOw; exact hOw) hLim
          have hT := trim_any _ _ _ _ harr
          have hn := Arr.norm_take harr
          rw [hlen, hv] at hT
          rw [hv] at hn
          have HOw : Hid (OwnL wr w.heap.size (.slice (some ⟨w.heap.size, 0, none⟩) (shrL r (la.drop n)).length (n1 - n)) (shrL r (la.drop n))) := Lib.hid (by rw [hlen]; exact hOw)
          have Hn := Lib.hid hn
          have hlost : bl = decide (valL la % 2 ^ k ≠ 0) := by
            have h := shr_lost la k (HA.out w (Below.refl _ _)).2.2.1 (by have := Hk.out.1; have := Hn1.out; omega)
            rw [Hk.out.1, Hk.out.2, Ht.out, ← HB0.out, ← anyN_false] at h
            have h2 := hbl.out
            by_cases h0 : valL la % 2 ^ k = 0
            · obtain ⟨e1, e2⟩ := h.1 h0
              rw [e1, e2] at h2
              rw [h2, h0]; simp
            · have : bl ≠ false := by
                intro hb
                rw [hb] at h2
                have h3 := (Bool.or_eq_false_iff.1 h2.symm)
                exact h0 (h.2 ⟨h3.2, h3.1⟩)
              cases bl
              · exact absurd rfl this
              · simp [h0]
          have HL := Lib.hid hlost
          clear hall hOw hlen hfull hLim hv harr hn hlost
          go_wp2_with (go_at_call 143; (with_reducible refine hT.mono ?_); rintro e w' ⟨rfl, rfl⟩)
          go_ret2
          refine ⟨_, _, by rw [HL.out]; rfl, ?_, hR.out.below⟩
          rw [← Hn.out]
          exact OwnL.take_of HOw.out Hn.out
/-- nat.shr of a normal number. -/
theorem shr_any (a : Option Addr) (c k A : Nat) (w : World) (hA : Arr w a c (limbs A)) (hl : (limbs A).length ≤ 10000) (hk : k ≤ 9223372036854775807) :
    Calls Tryz.prog 144 #[.slice a (limbs A).length c, .int .i64 (k : Int)] w fun e w' => ∃ a' c', e = .returned (.tuple #[.slice a' (limbs (A / 2 ^ k)).length c', .bool (decide (A % 2 ^ k ≠ 0))]) ∧ OwnL w' w.heap.size (.slice a' (limbs (A / 2 ^ k)).length c') (limbs (A / 2 ^ k)) ∧ Below w.heap.size w w' := by
  by_cases h : k / 64 < (limbs A).length
  · have h := shr_core a c k (limbs A) w hA hl h
    rw [valL_limbs] at h
    refine h.mono ?_
    rintro e w' ⟨g, cap, he, ho, hb⟩
    exact ⟨_, cap, he, ho, hb⟩
  · have h0 := shr_beyond (limbs A) k (limbs_limbs A) (by omega)
    rw [valL_limbs] at h0
    refine (shr_far a c k _ w hk (by omega)).mono ?_
    rintro e w' ⟨rfl, rfl⟩
    rw [h0, limbs_zero]
    have hlt : A < 2 ^ k := by
      apply Nat.lt_of_not_le
      intro hle
      have := (Nat.le_div_iff_mul_le (Nat.two_pow_pos k) (x := 1) (y := A)).2 (by omega)
      omega
    have hm : A % 2 ^ k = A := Nat.mod_eq_of_lt hlt
    refine ⟨none, 0, ?_, World.ownsRow_nil _ _ _ _, Below.refl _ _⟩
    rw [hm]
    by_cases hA0 : A = 0
    · subst hA0; rw [limbs_zero]; rfl
    · have : 0 < (limbs A).length := List.length_pos_iff.2 fun e => hA0 ((limbs_nil_iff A).1 e)
      simp [hA0, this]
theorem Shr_neg (a : Option Addr) (c : Nat) (k : Int) (l : List Nat) (w : World) (hA : Arr w a c l) (hl : (limbs (valL l)).length ≤ 4096) (hk : k < 0) :
    Calls Tryz.prog 100 #[.slice a l.length c, .int .i64 k] w fun e w' => e = .returned (.tuple #[.slice none 0 0, .bool false, .int .i64 2]) ∧ Below w.heap.size w w' := by
  have hO := open1_in a c l w hA hl
  obtain ⟨w2, hw2⟩ : ∃ w2, ((w.alloc (.cells #[.slice a (limbs (valL l)).length c] 22)).alloc (.cells #[.pointer (some ⟨w.heap.size, 0, none⟩)] 135)) = w2 := ⟨_, rfl⟩
  have hB2 : Below w.heap.size w w2 := by rw [← hw2]; (repeat' (first | exact Below.refl _ _ | assumption | (refine below_alloc ?_ _) | (refine Below.setCell ?_ ?_ _) | (refine Below.drew ?_) | (refine below_drewN ?_ _))) <;> (first | (simp; done) | (simp; omega) | omega)
  rw [hw2] at hO
  have HB2 := Lib.hid hB2
  clear hw2 hA hB2
  go_enter Tryz.func100, Tryz.ntmps100
  go_wp2_with fail
  refine hO.mono ?_
  rintro e w' ⟨rfl, rfl⟩
  go_wp2_with fail
  go_ret3
  exact ⟨rfl, HB2.out⟩
set_option maxHeartbeats 1000000 in
/-- nat.Shr at every number that may be, at every power that is not below 0. -/
theorem Shr_any (a : Option Addr) (c k : Nat) (l : List Nat) (w : World) (hA : Arr w a c l) (hl : (limbs (valL l)).length ≤ 4096) (hk : k ≤ 9223372036854775807) :
    Calls Tryz.prog 100 #[.slice a l.length c, .int .i64 (k : Int)] w fun e w' => ∃ a' c', e = .returned (.tuple #[.slice a' (limbs (valL l / 2 ^ k)).length c', .bool (decide (valL l % 2 ^ k ≠ 0)), .int .i64 0]) ∧ Arr w' a' c' (limbs (valL l / 2 ^ k)) ∧ Below w.heap.size w w' := by
  obtain ⟨w2, hw2⟩ : ∃ w2, ((w.alloc (.cells #[.slice a (limbs (valL l)).length c] 22)).alloc (.cells #[.pointer (some ⟨w.heap.size, 0, none⟩)] 135)) = w2 := ⟨_, rfl⟩
  have hB2 : Below w.heap.size w w2 := by rw [← hw2]; (repeat' (first | exact Below.refl _ _ | assumption | (refine below_alloc ?_ _) | (refine Below.setCell ?_ ?_ _) | (refine Below.drew ?_) | (refine below_drewN ?_ _))) <;> (first | (simp; done) | (simp; omega) | omega)
  have hAn := hA.norm.below hB2
  have c1 : w2.cell? ⟨w.heap.size, 0, none⟩ = some (.slice a (limbs (valL l)).length c) := by rw [← hw2]; simp [go_sem]
  have hO := open1_in a c l w hA hl
  have hS := shr_any a c k (valL l) w2 hAn (by omega) hk
  rw [hw2] at hO
  obtain ⟨n, hn⟩ : ∃ n, (limbs (valL l)).length = n := ⟨_, rfl⟩
  obtain ⟨N, hN⟩ : ∃ N, valL l / 2 ^ k = N := ⟨_, rfl⟩
  obtain ⟨bl, hbl⟩ : ∃ bl, decide (valL l % 2 ^ k ≠ 0) = bl := ⟨_, rfl⟩
  rw [hn] at hl c1
  rw [hn, hN, hbl] at hS
  rw [hN, hbl]
  have HB2 := Lib.hid hB2
  clear hw2 hA hAn hB2 hn hN hbl
  go_enter Tryz.func100, Tryz.ntmps100
  go_wp2_with fail
  refine hO.mono ?_
  rintro e w' ⟨rfl, rfl⟩
  clear hO
  go_wp2_with fail
  refine hS.mono ?_
  rintro e w3 ⟨a', c', rfl, ho, hb3⟩
  have HArr := Lib.hid (OwnL.arr' ho (limbs_limbs _))
  have HB3 := Lib.hid (below_step HB2.out hb3)
  clear ho hb3 hS
  go_wp2_with fail
  go_ret3
  exact ⟨_, _, rfl, HArr.out, HB3.out⟩
end Go.Proofs.YtjlaadadbpffdaaGreatDoor
