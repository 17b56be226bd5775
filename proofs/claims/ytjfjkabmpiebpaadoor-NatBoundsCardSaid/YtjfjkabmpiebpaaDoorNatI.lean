/-
  nat.Mul at every two numbers.
-/
import Derived.Test.YtjfjkabmpiebpaaDoorNatG
set_option linter.unusedSimpArgs false
set_option linter.unusedVariables false
namespace Go.Plumb
theorem getD_patch (lo os : List Nat) (k j : Nat) (h : k + os.length ≤ lo.length) (hj : k + os.length ≤ j) : (patch lo k os).getD j 0 = lo.getD j 0 := by
  unfold patch List.getD
  rw [List.append_assoc, List.getElem?_append_right (by simp; omega), List.length_take, Nat.min_eq_left (by omega), List.getElem?_append_right (by omega), List.getElem?_drop]
  congr 2
  omega
theorem muls_round (la lb lo os : List Nat) (k n1 n2 cy y : Nat) (h1 : la.length = n1) (hlo : lo.length = n1 + n2) (hk : k < n2) (hz : ∀ j, k + n1 ≤ j → lo.getD j 0 = 0) (hv : valL lo = valL la * valL (lb.take k)) (hos : os.length = n1)
    (he : valL os + 18446744073709551616 ^ n1 * cy = valL ((lo.drop k).take n1) + valL la * y) (hy : lb.getD k 0 = y) :
    valL ((patch lo k os).set (k + n1) cy) = valL la * valL (lb.take (k + 1)) ∧ (∀ j, k + 1 + n1 ≤ j → ((patch lo k os).set (k + n1) cy).getD j 0 = 0) ∧ ((patch lo k os).set (k + n1) cy).length = n1 + n2 := by
  have hpl : (patch lo k os).length = n1 + n2 := by rw [patch_length _ _ _ (by omega)]; exact hlo
  refine ⟨?_, fun j hj => ?_, by rw [List.length_set]; exact hpl⟩
  · have s1 := valL_set (patch lo k os) (k + n1) cy (by omega)
    have s2 := patch_value lo k os (by omega)
    rw [getD_patch lo os k (k + n1) (by omega) (by omega), hz (k + n1) (Nat.le_refl _), Nat.mul_zero, Nat.add_zero] at s1
    rw [hos] at s2
    rw [valL_take_any lb k, hy, Nat.mul_add, ← hv, s1, Nat.pow_add, Nat.mul_assoc]
    have e3 := congrArg (18446744073709551616 ^ k * ·) he
    simp only [Nat.mul_add] at e3
    have e4 : valL la * (18446744073709551616 ^ k * y) = 18446744073709551616 ^ k * (valL la * y) := by rw [← Nat.mul_assoc, Nat.mul_comm (valL la), Nat.mul_assoc]
    rw [e4]
    omega
  · unfold List.getD
    rw [List.getElem?_set_ne (by omega)]
    have := getD_patch lo os k j (by omega) (by omega)
    unfold List.getD at this
    rw [this]
    exact hz j (by omega)
theorem length_prod (A B : Nat) (hA : A ≠ 0) (hB : B ≠ 0) : (limbs A).length + (limbs B).length ≤ (limbs (A * B)).length + 1 := by
  apply Nat.le_of_not_lt
  intro h
  have h1 := pow_le_of_length A hA
  have h2 := pow_le_of_length B hB
  have h3 := Nat.mul_le_mul h1 h2
  rw [← Nat.pow_add] at h3
  have h4 := lt_pow_length (A * B)
  have pA : 0 < (limbs A).length := List.length_pos_iff.2 fun e => hA ((limbs_nil_iff A).1 e)
  have pB : 0 < (limbs B).length := List.length_pos_iff.2 fun e => hB ((limbs_nil_iff B).1 e)
  have h5 := Nat.pow_le_pow_right (show 0 < 18446744073709551616 by decide) (show (limbs (A * B)).length ≤ (limbs A).length - 1 + ((limbs B).length - 1) by omega)
  omega
theorem length_prod_le (A B : Nat) : (limbs (A * B)).length ≤ (limbs A).length + (limbs B).length := by
  apply length_limbs_le
  rw [Nat.pow_add]
  exact Nat.mul_lt_mul_of_lt_of_lt (lt_pow_length A) (lt_pow_length B)
end Go.Plumb
namespace Go.Proofs.YtjfjkabmpiebpaaDoor
open Go.RowKit Go.Plumb

theorem run_make2 (n m : Nat) (h1 : n + m ≤ 100000) (w : World) :
    Sem.run Tryd.prog ((Instr.makeSlice 22 (.int .i64 ((n : Int) + m)) (.int .i64 ((n : Int) + m)))) w = .ok (.slice (some ⟨w.heap.size, 0, none⟩) (n + m) (n + m)) (w.alloc (.cells (zerosA (n + m)) 36)) := by
  have := run_makeI ((n : Int) + m) (by omega) (by omega) w
  rw [show ((n : Int) + m).toNat = n + m by omega] at this
  exact this
/-- What holds at the head of each round of Mul. -/
structure MulsRel (w : World) (a b : Option Addr) (n1 n2 c d : Nat) (la lb : List Nat) (k : Nat) (lo : List Nat) (wr : World) : Prop where
  len : lo.length = n1 + n2
  limbs : Limbs lo
  val : valL lo = valL la * valL (lb.take k)
  zeros : ∀ j, k + n1 ≤ j → lo.getD j 0 = 0
  k3 : wr.cell? ⟨w.heap.size, 0, none⟩ = some (.slice a n1 c)
  k4 : wr.cell? ⟨w.heap.size + 1, 0, none⟩ = some (.slice b n2 d)
  own : OwnL wr w.heap.size (.slice (some ⟨w.heap.size + 3, 0, none⟩) (n1 + n2) (n1 + n2)) lo
  below : Below w.heap.size w wr
theorem MulsRel.step {w : World} {a b : Option Addr} {n1 n2 c d : Nat} {la lb : List Nat} {k : Nat} {lo : List Nat} {wr : World} (h : MulsRel w a b n1 n2 c d la lb k lo wr) (h1 : la.length = n1) (hk : k < n2) {os : List Nat} {cy y j : Nat} {w1 : World}
    (hcy : cy < 18446744073709551616) (hos : os.length = n1) (hlo : Limbs os) (he : valL os + 18446744073709551616 ^ n1 * cy = valL ((lo.drop k).take n1) + valL la * y) (hy : lb.getD k 0 = y)
    (ho : OwnL w1 w.heap.size (.slice (some ⟨w.heap.size + 3, 0, none⟩) (n1 + n2) (n1 + n2)) (patch lo k os)) (hg : wr.grownBy w1 (some (w.heap.size + 3))) (v : Int) (hv : v = (cy : Int)) (hj : j = k + n1) :
    MulsRel w a b n1 n2 c d la lb (k + 1) ((patch lo k os).set (k + n1) cy) (w1.setCell ⟨w.heap.size + 3, j, none⟩ (.int .u64 v)) := by
  subst hj
  obtain ⟨hlen, hl, hval, hz, k3, k4, hown, hB⟩ := h
  obtain ⟨r1, r2, r3⟩ := muls_round la lb lo os k n1 n2 cy y h1 hlen hk hz hval hos he hy
  have hB1 : Below w.heap.size w w1 := hB.grown hg hB.size (fun q e => by cases e; omega)
  refine ⟨r3, (patch_limbs hl hlo k).set _ _ hcy, r1, r2, ?_, ?_, OwnL.store ho (k + n1) cy v hv, hB1.setCell (by simp) _⟩
  · exact (World.cell?_setCell_other _ _ _ _ (by simp)).trans (hg.cell k3 (by simp))
  · exact (World.cell?_setCell_other _ _ _ _ (by simp)).trans (hg.cell k4 (by simp))

theorem MulsRel.mid {w : World} {a b : Option Addr} {n1 n2 c d : Nat} {la lb : List Nat} {k : Nat} {lo : List Nat} {wr : World} (h : MulsRel w a b n1 n2 c d la lb k lo wr) (hk : k < n2) {os : List Nat} {w1 : World} (hos : os.length = n1)
    (ho : OwnL w1 w.heap.size (.slice (some ⟨w.heap.size + 3, 0, none⟩) (n1 + n2) (n1 + n2)) (patch lo k os)) : w1.cell? ⟨w.heap.size + 3, k + n1, none⟩ = some (.int .u64 0) := by
  have hlen := h.len
  refine OwnL.cell ho (k + n1) 0 ?_
  rw [← hos, patch_at lo os k (by omega), hos, List.getElem?_eq_getElem (by omega)]
  have := h.zeros (k + n1) (Nat.le_refl _)
  simpa [List.getD, show k + n1 < lo.length by omega] using this
theorem MulsRel.drew {w : World} {a b : Option Addr} {n1 n2 c d : Nat} {la lb : List Nat} {k : Nat} {lo : List Nat} {wr : World} (h : MulsRel w a b n1 n2 c d la lb k lo wr) : MulsRel w a b n1 n2 c d la lb k lo wr.drew :=
  ⟨h.len, h.limbs, h.val, h.zeros, h.k3, h.k4, World.ownsRow.drew h.own, h.below.drew⟩

set_option maxHeartbeats 4000000 in
theorem muls_walk (a b : Option Addr) (c d : Nat) (l m : List Nat) (w : World) (hA : Arr w a c l) (hB : Arr w b d m) (hl : (limbs (valL l)).length ≤ 4096) (hm : (limbs (valL m)).length ≤ 4096) (hfit : (limbs (valL l)).length + (limbs (valL m)).length ≤ 4097 ∨ (limbs (valL l)).length = 0 ∨ (limbs (valL m)).length = 0) :
    Calls Tryd.prog 24 #[.slice a l.length c, .slice b m.length d] w fun e w' => ∃ a' c', e = .returned (.tuple #[doneS a' (limbs (valL l * valL m)).length c', .int .i64 (doneE (limbs (valL l * valL m)).length)]) ∧ Arr w' a' c' (limbs (valL l * valL m)) ∧ Below w.heap.size w w' := by
  have hO := open2_in a b c d l m w hA hB hl hm
  obtain ⟨w2, hw2⟩ : ∃ w2, ((w.alloc (.cells #[.slice a (limbs (valL l)).length c] 22)).alloc (.cells #[.slice b (limbs (valL m)).length d] 22)).alloc (.cells #[.pointer (some ⟨w.heap.size, 0, none⟩), .pointer (some ⟨w.heap.size + 1, 0, none⟩)] 62) = w2 := ⟨_, rfl⟩
  have hB2 : Below w.heap.size w w2 := by rw [← hw2]; (repeat' (first | exact Below.refl _ _ | assumption | (refine below_alloc ?_ _) | (refine Below.setCell ?_ ?_ _) | (refine Below.drew ?_) | (refine below_drewN ?_ _))) <;> (first | (simp; done) | (simp; omega) | omega)
  have hsz : w2.heap.size = w.heap.size + 3 := by rw [← hw2]; simp
  have hAn := hA.norm
  have hBn := hB.norm
  rw [hw2] at hO
  obtain ⟨la, hla⟩ : ∃ la, limbs (valL l) = la := ⟨_, rfl⟩
  obtain ⟨lb, hlb⟩ : ∃ lb, limbs (valL m) = lb := ⟨_, rfl⟩
  rw [hla] at hl hfit hAn
  rw [hlb] at hm hfit hBn
  obtain ⟨n1, hn1⟩ : ∃ n1, la.length = n1 := ⟨_, rfl⟩
  obtain ⟨n2, hn2⟩ : ∃ n2, lb.length = n2 := ⟨_, rfl⟩
  rw [hn1] at hl hfit
  rw [hn2] at hm hfit
  have c1 : w2.cell? ⟨w.heap.size, 0, none⟩ = some (.slice a n1 c) := by rw [← hw2, hla, hn1]; simp [go_sem]
  have c2 : w2.cell? ⟨w.heap.size + 1, 0, none⟩ = some (.slice b n2 d) := by rw [← hw2, hlb, hn2]; simp [go_sem]
  have hmk := run_make2 n1 n2 (by omega)
  clear hw2
  have hN1 : valL la = valL l := by rw [← hla, valL_limbs]
  have hN2 : valL lb = valL m := by rw [← hlb, valL_limbs]
  have HPA : Hid (∀ wr, Below w.heap.size w wr → Arr wr a c la) := Lib.hid fun wr h => hAn.below h
  have HPB : Hid (∀ wr, Below w.heap.size w wr → Arr wr b d lb) := Lib.hid fun wr h => hBn.below h
  have HPa : Hid (∀ q off, a = some ⟨q, off, none⟩ → 0 < la.length → q < w.heap.size) := Lib.hid fun q off e h0 => by
    obtain ⟨q', off', e', hc⟩ := hAn.2.2.2 0 h0
    rw [e] at e'; cases e'
    exact cell_lt hc
  have HPb : Hid (∀ q off, b = some ⟨q, off, none⟩ → 0 < lb.length → q < w.heap.size) := Lib.hid fun q off e h0 => by
    obtain ⟨q', off', e', hc⟩ := hBn.2.2.2 0 h0
    rw [e] at e'; cases e'
    exact cell_lt hc
  have HB2 := Lib.hid hB2
  have HN1 := Lib.hid hN1
  have HN2 := Lib.hid hN2
  have Hn1 := Lib.hid hn1
  have Hn2 := Lib.hid hn2
  have hcase : n1 + n2 ≤ 4097 := by omega
  clear hAn hBn hA hB hB2 hN1 hN2 hn1 hn2 hla hlb hfit
  go_enter Tryd.func24, Tryd.ntmps24
  go_wp2_with fail
  refine hO.mono ?_
  rintro e w' ⟨rfl, rfl⟩
  clear hO
  go_wp2_with fail
  go_loopw [38] (fun v wr => ∃ (k : Nat) (lo : List Nat), k ≤ n2 ∧ v = .int .i64 (k : Int) ∧ Hid (MulsRel w a b n1 n2 c d la lb k lo wr)) (fun v _ => n2 - (intOf v).toNat)
  case atStart =>
    have ho := owns_zeros w2 w.heap.size (n1 + n2) (by omega) (by omega)
    rw [hsz] at ho
    refine ⟨0, List.replicate (n1 + n2) 0, Nat.zero_le _, rfl, Lib.hid ⟨by simp, Limbs.replicate _, by rw [valL_replicate]; simp [valL], fun j _ => by simp [List.getD, List.getElem?_replicate]; split <;> rfl, Lib.cell?_alloc_some _ c1, Lib.cell?_alloc_some _ c2, ?_, HB2.out.alloc (by omega) _⟩⟩
    unfold OwnL
    rw [List.length_replicate]
    exact ho
  case round =>
    obtain ⟨k, lo, hk, rfl, hR⟩ := hrel
    have k3 := hR.out.k3
    have k4 := hR.out.k4
    by_cases hlt : k < n2
    · obtain ⟨b2, o2, eb, hc2⟩ := (HPB.out wr hR.out.below).2.2.2 k (by have := Hn2.out; omega)
      obtain ⟨y, hy⟩ : ∃ y, lb.getD k 0 = y := ⟨_, rfl⟩
      have hyl : y < 18446744073709551616 := by rw [← hy]; exact (HPB.out wr hR.out.below).2.2.1.get k
      have HY := Lib.hid hy
      rw [hy] at hc2
      have hRd := MulsRel.drew hR.out
      have a0 := hRd.k3
      have a1 := hRd.k4
      rw [eb] at a1
      have a2 : wr.drew.cell? ⟨b2, o2 + k, none⟩ = some (.int .u64 (y : Int)) := hc2
      have hne2 : b2 ≠ w.heap.size + 3 := by have := HPb.out _ _ eb (by have := Hn2.out; omega); omega
      have hM := mul_any w.heap.size (w.heap.size + 3) k (n1 + n2 - k) (n1 + n2 - k) (n1 + n2) a c y la lo wr.drew (HPA.out wr.drew hRd.below) (by rw [hR.out.len]; exact hRd.own) (fun q off e h0 => by have := HPa.out q off e h0; omega) (by have := hR.out.len; have := Hn1.out; omega) (by have := Hn1.out; omega) hR.out.limbs (by have := hR.out.len; omega) hyl
      rw [Hn1.out, hR.out.len] at hM
      have HRd := Lib.hid hRd
      have z1 : (0 : Int) ≤ (k : Int) := by omega
      have z2 : (k : Int) ≤ (n1 : Int) + (n2 : Int) := by omega
      have z3 : (k : Int) + (n1 : Int) < (n1 : Int) + (n2 : Int) := by omega
      have z4 : (0 : Int) ≤ (k : Int) + (n1 : Int) := by omega
      have z5 : (k : Int) < (n2 : Int) := by omega
      have z6 : ¬ (n1 + n2 = k) := by omega
      have z8 : ((k : Int) + (n1 : Int)).toNat = k + n1 := by omega
      have z7 : IntKind.i64.wrap ((k : Int) + (n1 : Int)) = (k : Int) + (n1 : Int) := IntWalk.i64_in _ ⟨by omega, by omega⟩
      clear hy hRd eb k3 k4
      go_wp2_with fail
      go_region_held3 (fun w' => w'.cell? ⟨w.heap.size, 0, none⟩ = some (.slice a n1 c) ∧ w'.cell? ⟨w.heap.size + 1, 0, none⟩ = some (.slice (some ⟨b2, o2, none⟩) n2 d) ∧ w'.cell? ⟨b2, o2 + k, none⟩ = some (.int .u64 (y : Int))) (first | exact ⟨a0, a1, a2⟩ | exact ⟨d0, d1, d2⟩ | exact ⟨(World.cell?_setCell_other _ _ _ _ (by simp)).trans d0, (World.cell?_setCell_other _ _ _ _ (by simp)).trans d1, (World.cell?_setCell_other _ _ _ _ (by first | (simp; done) | (simpa using hne2))).trans d2⟩ | go_keep) ((first | (go_at_call 58; (with_reducible refine hM.mono ?_); rintro e w' ⟨os, cy, rfl, hcy, hos, hlo, he, ho, hg⟩; have d0 := hg.cell a0 (by simp); have d1 := hg.cell a1 (by simp); have d2 := hg.cell a2 (by simpa using hne2); have hfo := OwnL.thaw ho (k + n1); have hco := MulsRel.mid HRd.out hlt hos ho; have HE := Lib.hid he; have HO := Lib.hid ho; have HG := Lib.hid hg; have Hos := Lib.hid hos; have Hlo := Lib.hid hlo; clear a0 a1 a2 he ho hg hos hlo hM)))
      all_goals go_wp2_with fail
      all_goals go_roundw
      case rel => exact ⟨k + 1, _, by omega, by go_num, Lib.hid (MulsRel.step HRd.out Hn1.out hlt (by assumption) (by assumption : Hid _).out (by assumption : Hid _).out (by assumption : Hid _).out HY.out (by assumption : Hid _).out (by assumption : Hid _).out _ rfl rfl)⟩
      case measure => simp [intOf]; omega
    · obtain rfl : k = n2 := by omega
      obtain ⟨a', c', e2, harr⟩ := OwnL.arr (by have := hR.out.own; rw [← hR.out.len] at this; exact this) hR.out.limbs
      simp only [Value.slice.injEq] at e2
      obtain ⟨rfl, e3, rfl⟩ := e2
      clear e3
      have hD := done_both _ _ _ _ harr
      have hv := hR.out.val
      rw [show lb.take k = lb by rw [← Hn2.out, List.take_length], HN1.out, HN2.out] at hv
      rw [hR.out.len, hv] at hD
      have hn := harr.norm
      rw [hv, hR.out.len] at hn
      have HHn := Lib.hid hn
      clear hn hv harr
      go_wp2_with (go_at_call 52; (with_reducible refine hD.mono ?_); rintro e w' ⟨rfl, rfl⟩)
      go_ret2
      exact ⟨_, _, rfl, HHn.out, hR.out.below⟩
set_option maxHeartbeats 1000000 in
theorem muls_long (a b : Option Addr) (c d : Nat) (l m : List Nat) (w : World) (hA : Arr w a c l) (hB : Arr w b d m) (hl : (limbs (valL l)).length ≤ 4096) (hm : (limbs (valL m)).length ≤ 4096) (hfit : 4097 < (limbs (valL l)).length + (limbs (valL m)).length) (h1 : (limbs (valL l)).length ≠ 0) (h2 : (limbs (valL m)).length ≠ 0) :
    Calls Tryd.prog 24 #[.slice a l.length c, .slice b m.length d] w fun e w' => e = .returned (.tuple #[.slice none 0 0, .int .i64 3]) ∧ Below w.heap.size w w' := by
  have hO := open2_in a b c d l m w hA hB hl hm
  obtain ⟨w2, hw2⟩ : ∃ w2, ((w.alloc (.cells #[.slice a (limbs (valL l)).length c] 22)).alloc (.cells #[.slice b (limbs (valL m)).length d] 22)).alloc (.cells #[.pointer (some ⟨w.heap.size, 0, none⟩), .pointer (some ⟨w.heap.size + 1, 0, none⟩)] 62) = w2 := ⟨_, rfl⟩
  have hB2 : Below w.heap.size w w2 := by rw [← hw2]; (repeat' (first | exact Below.refl _ _ | assumption | (refine below_alloc ?_ _) | (refine Below.setCell ?_ ?_ _) | (refine Below.drew ?_) | (refine below_drewN ?_ _))) <;> (first | (simp; done) | (simp; omega) | omega)
  rw [hw2] at hO
  obtain ⟨n1, hn1⟩ : ∃ n1, (limbs (valL l)).length = n1 := ⟨_, rfl⟩
  obtain ⟨n2, hn2⟩ : ∃ n2, (limbs (valL m)).length = n2 := ⟨_, rfl⟩
  have c1 : w2.cell? ⟨w.heap.size, 0, none⟩ = some (.slice a n1 c) := by rw [← hw2, hn1]; simp [go_sem]
  have c2 : w2.cell? ⟨w.heap.size + 1, 0, none⟩ = some (.slice b n2 d) := by rw [← hw2, hn2]; simp [go_sem]
  rw [hn1] at hl hfit h1
  rw [hn2] at hm hfit h2
  have z1 : 0 < n1 := by omega
  have z2 : 0 < n2 := by omega
  have HB2 := Lib.hid hB2
  clear hw2 hn1 hn2 hA hB hB2 h1 h2
  go_enter Tryd.func24, Tryd.ntmps24
  go_wp2_with fail
  refine hO.mono ?_
  rintro e w' ⟨rfl, rfl⟩
  clear hO
  go_wp2_with fail
  go_ret2
  exact ⟨rfl, HB2.out⟩
theorem doneS_long {a : Option Addr} {n c : Nat} (h : 4096 < n) : doneS a n c = .slice none 0 0 := by unfold doneS; rw [if_neg (by omega)]
theorem doneE_long {n : Nat} (h : 4096 < n) : doneE n = 3 := by unfold doneE; rw [if_neg (by omega)]
theorem doneS_ok {a : Option Addr} {n c : Nat} (h : n ≤ 4096) : doneS a n c = .slice a n c := by unfold doneS; rw [if_pos h]
theorem doneE_ok {n : Nat} (h : n ≤ 4096) : doneE n = 0 := by unfold doneE; rw [if_pos h]
/-- What nat.done hands back shows: the number, where it may be. -/
def Done (w : World) (v e : Value) (N : Nat) : Prop := ((limbs N).length ≤ 4096 → e = .int .i64 0 ∧ ∃ a c, v = .slice a (limbs N).length c ∧ Arr w a c (limbs N)) ∧ (4096 < (limbs N).length → e = .int .i64 3 ∧ v = .slice none 0 0)
theorem Done.of {w : World} {a : Option Addr} {c N : Nat} (h : Arr w a c (limbs N)) : Done w (doneS a (limbs N).length c) (.int .i64 (doneE (limbs N).length)) N :=
  ⟨fun hl => ⟨by rw [doneE_ok hl], a, c, doneS_ok hl, h⟩, fun hl => ⟨by rw [doneE_long hl], doneS_long hl⟩⟩
/-- nat.Mul at every two numbers that may be. -/
theorem Mul_any (a b : Option Addr) (c d : Nat) (l m : List Nat) (w : World) (hA : Arr w a c l) (hB : Arr w b d m) (hl : (limbs (valL l)).length ≤ 4096) (hm : (limbs (valL m)).length ≤ 4096) :
    Calls Tryd.prog 24 #[.slice a l.length c, .slice b m.length d] w fun e w' => ∃ v x, e = .returned (.tuple #[v, x]) ∧ Done w' v x (valL l * valL m) ∧ Below w.heap.size w w' := by
  by_cases h : (limbs (valL l)).length + (limbs (valL m)).length ≤ 4097 ∨ (limbs (valL l)).length = 0 ∨ (limbs (valL m)).length = 0
  · refine (muls_walk a b c d l m w hA hB hl hm h).mono ?_
    rintro e w' ⟨a', c', rfl, harr, hb⟩
    exact ⟨_, _, rfl, Done.of harr, hb⟩
  · refine (muls_long a b c d l m w hA hB hl hm (by omega) (by omega) (by omega)).mono ?_
    rintro e w' ⟨rfl, hb⟩
    have hA0 : valL l ≠ 0 := fun e => by rw [e, limbs_zero] at h; simp at h
    have hB0 : valL m ≠ 0 := fun e => by rw [e, limbs_zero] at h; simp at h
    have := length_prod (valL l) (valL m) hA0 hB0
    exact ⟨_, _, rfl, ⟨fun h1 => by omega, fun _ => ⟨rfl, rfl⟩⟩, hb⟩
/-- nat.Add at every two numbers that may be. -/
theorem Add_any (a b : Option Addr) (c d : Nat) (l m : List Nat) (w : World) (hA : Arr w a c l) (hB : Arr w b d m) (hl : (limbs (valL l)).length ≤ 4096) (hm : (limbs (valL m)).length ≤ 4096) :
    Calls Tryd.prog 17 #[.slice a l.length c, .slice b m.length d] w fun e w' => ∃ v x, e = .returned (.tuple #[v, x]) ∧ Done w' v x (valL l + valL m) ∧ Below w.heap.size w w' := by
  refine (add_any a b c d l m w hA hB hl hm).mono ?_
  rintro e w' ⟨a', c', rfl, harr, hb⟩
  exact ⟨_, _, rfl, Done.of harr, hb⟩
/-- A product that may be. -/
theorem Mul_ok (a b : Option Addr) (c d : Nat) (l m : List Nat) (w : World) (hA : Arr w a c l) (hB : Arr w b d m) (hl : (limbs (valL l)).length ≤ 4096) (hm : (limbs (valL m)).length ≤ 4096) (hN : (limbs (valL l * valL m)).length ≤ 4096) :
    Calls Tryd.prog 24 #[.slice a l.length c, .slice b m.length d] w fun e w' => ∃ a' c', e = .returned (.tuple #[.slice a' (limbs (valL l * valL m)).length c', .int .i64 0]) ∧ Arr w' a' c' (limbs (valL l * valL m)) ∧ Below w.heap.size w w' := by
  refine (Mul_any a b c d l m w hA hB hl hm).mono ?_
  rintro e w' ⟨v, x, rfl, hd, hb⟩
  obtain ⟨rfl, a', c', rfl, harr⟩ := hd.1 hN
  exact ⟨a', c', rfl, harr, hb⟩
theorem Add_ok (a b : Option Addr) (c d : Nat) (l m : List Nat) (w : World) (hA : Arr w a c l) (hB : Arr w b d m) (hl : (limbs (valL l)).length ≤ 4096) (hm : (limbs (valL m)).length ≤ 4096) (hN : (limbs (valL l + valL m)).length ≤ 4096) :
    Calls Tryd.prog 17 #[.slice a l.length c, .slice b m.length d] w fun e w' => ∃ a' c', e = .returned (.tuple #[.slice a' (limbs (valL l + valL m)).length c', .int .i64 0]) ∧ Arr w' a' c' (limbs (valL l + valL m)) ∧ Below w.heap.size w w' := by
  refine (Add_any a b c d l m w hA hB hl hm).mono ?_
  rintro e w' ⟨v, x, rfl, hd, hb⟩
  obtain ⟨rfl, a', c', rfl, harr⟩ := hd.1 hN
  exact ⟨a', c', rfl, harr, hb⟩
end Go.Proofs.YtjfjkabmpiebpaaDoor
