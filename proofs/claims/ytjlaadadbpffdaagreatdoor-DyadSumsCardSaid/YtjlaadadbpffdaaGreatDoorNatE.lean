/-
  nat.Add at every two numbers.
-/
import Derived.Test.YtjlaadadbpffdaaGreatDoorNnA
import Derived.Test.YtjlaadadbpffdaaGreatDoorNnL
set_option linter.unusedSimpArgs false
set_option linter.unusedVariables false
namespace Go.Proofs.YtjlaadadbpffdaaGreatDoor
open Go.RowKit Go.Plumb

/-- What nat.done hands back. -/
def doneS (a : Option Addr) (n c : Nat) : Value := if n ≤ 4096 then .slice a n c else .slice none 0 0
def doneE (n : Nat) : Int := if n ≤ 4096 then 0 else 3
theorem done_both (a : Option Addr) (c : Nat) (l : List Nat) (w : World) (h : Arr w a c l) :
    Calls Tryz.prog 136 #[.slice a l.length c] w fun e w' => e = .returned (.tuple #[doneS a (limbs (valL l)).length c, .int .i64 (doneE (limbs (valL l)).length)]) ∧ w = w' := by
  by_cases hl : (limbs (valL l)).length ≤ 4096
  · refine (done_any a c l w h hl).mono ?_
    rintro e w' ⟨rfl, rfl⟩
    exact ⟨by unfold doneS doneE; rw [if_pos hl, if_pos hl], rfl⟩
  · refine (done_long a c l w h (by omega)).mono ?_
    rintro e w' ⟨rfl, rfl⟩
    exact ⟨by unfold doneS doneE; rw [if_neg hl, if_neg hl], rfl⟩

/-- What holds at the head of each round of Add: 'la' the longer number, 'lb' the other. -/
structure AddRel (w : World) (a b : Option Addr) (n1 n2 c d : Nat) (la lb : List Nat) (i : Nat) (os : List Nat) (cy : Nat) (wr : World) : Prop where
  len : os.length = i
  limbs : Limbs os
  carry : cy ≤ 1
  val : valL os + 18446744073709551616 ^ i * cy = valL (la.take i) + valL (lb.take i)
  k1 : wr.cell? ⟨w.heap.size + 3, 0, none⟩ = some (.int .u64 (cy : Int))
  k2 : wr.frozen? ⟨w.heap.size + 3, 0, none⟩ = false
  k3 : wr.cell? ⟨w.heap.size, 0, none⟩ = some (.slice a n1 c)
  k4 : wr.cell? ⟨w.heap.size + 1, 0, none⟩ = some (.slice b n2 d)
  own : wr.ownsRow w.heap.size 31 1 (.slice (some ⟨w.heap.size + 3 + 1, 0, none⟩) (n1 + 1) (n1 + 1)) (n1 + 1) ((fillL os (n1 + 1)).map limbV)
  below : Below w.heap.size w wr
theorem AddRel.zero {w : World} {a b : Option Addr} {n1 n2 c d : Nat} {la lb : List Nat} {i : Nat} {os : List Nat} {cy : Nat} {wr : World} (h : AddRel w a b n1 n2 c d la lb i os cy wr) (j : Nat) (hj : j = i) (hi : i ≤ n1) :
    wr.cell? ⟨w.heap.size + 3 + 1, j, none⟩ = some (.int .u64 0) := by
  subst hj
  rw [h.own.cellAt j (by omega), List.getElem?_map]
  have := fillL_at os (n1 + 1) (by have := h.len; omega)
  rw [h.len] at this
  rw [this]; rfl
theorem AddRel.step {w : World} {a b : Option Addr} {n1 n2 c d : Nat} {la lb : List Nat} {i : Nat} {os : List Nat} {cy : Nat} {wr : World} (h : AddRel w a b n1 n2 c d la lb i os cy wr) (hi : i < n1) (x y : Nat) (hx : la.getD i 0 = x) (hy : lb.getD i 0 = y) (hxl : x < 18446744073709551616) (hyl : y < 18446744073709551616) (v1 v2 : Int)
    (e1 : v1 = ((x : Int) + y + cy) / 18446744073709551616) (e2 : v2 = ((x : Int) + y + cy) % 18446744073709551616) :
    AddRel w a b n1 n2 c d la lb (i + 1) (os ++ [(x + y + cy) % 18446744073709551616]) ((x + y + cy) / 18446744073709551616) ((wr.setCell ⟨w.heap.size + 3, 0, none⟩ (.int .u64 v1)).setCell ⟨w.heap.size + 3 + 1, i, none⟩ (.int .u64 v2)) := by
  obtain ⟨hos, hlo, hcy, hval, k1, k2, k3, k4, hown, hB⟩ := h
  subst e1 e2
  have ev : Value.int IntKind.u64 (((x : Int) + y + cy) % 18446744073709551616) = limbV ((x + y + cy) % 18446744073709551616) := by simp [limbV]
  refine ⟨by simp [hos], hlo.append (Limbs.cons (by omega) Limbs.nil), by omega, adds_step la lb os i cy x y hos hval hx hy, ?_, ?_, ?_, ?_, ?_, ?_⟩
  · refine (World.cell?_setCell_other _ _ _ _ (by simp)).trans ?_
    rw [World.cell?_setCell_same' _ _ _ (by rw [k1]; rfl)]; simp
  · rw [World.frozen?_setCell, World.frozen?_setCell]; exact k2
  · exact (World.cell?_setCell_other _ _ _ _ (by simp; try omega)).trans ((World.cell?_setCell_other _ _ _ _ (by simp; try omega)).trans k3)
  · exact (World.cell?_setCell_other _ _ _ _ (by simp; try omega)).trans ((World.cell?_setCell_other _ _ _ _ (by simp; try omega)).trans k4)
  · have h := ((ownsRow_setCell_other hown (a := ⟨w.heap.size + 3, 0, none⟩) (by simp [Value.ownBlock]) (.int .u64 (((x : Int) + y + cy) / 18446744073709551616))).stored i (limbV ((x + y + cy) % 18446744073709551616))).1
    have e := fillL_set os (n1 + 1) ((x + y + cy) % 18446744073709551616) (by omega)
    rw [hos] at e
    rw [← List.map_set, e, ← ev] at h
    exact h
  · exact (hB.setCell (by simp) _).setCell (by simp; try omega) _
/-- Behind the last round: the carry is stored, and the row is the sum's. -/
theorem AddRel.last {w : World} {a b : Option Addr} {n1 n2 c d : Nat} {la lb : List Nat} {os : List Nat} {cy : Nat} {wr : World} (h : AddRel w a b n1 n2 c d la lb n1 os cy wr) (h1 : la.length = n1) (h2 : lb.length ≤ n1) :
    Arr (wr.setCell ⟨w.heap.size + 3 + 1, n1, none⟩ (.int .u64 (cy : Int))) (some ⟨w.heap.size + 3 + 1, 0, none⟩) (n1 + 1) (os ++ [cy]) ∧ Below w.heap.size w (wr.setCell ⟨w.heap.size + 3 + 1, n1, none⟩ (.int .u64 (cy : Int))) ∧
      (os ++ [cy]).length = n1 + 1 ∧ valL (os ++ [cy]) = valL la + valL lb := by
  obtain ⟨hos, hlo, hcy, hval, k1, k2, k3, k4, hown, hB⟩ := h
  have hB' : Below w.heap.size w (wr.setCell ⟨w.heap.size + 3 + 1, n1, none⟩ (.int .u64 (cy : Int))) := hB.setCell (by simp; omega) _
  have hl : (os ++ [cy]).length = n1 + 1 := by simp [hos]
  refine ⟨?_, hB', hl, ?_⟩
  · have h := (hown.stored n1 (limbV cy)).1
    have e := fillL_set os (n1 + 1) cy (by omega)
    rw [hos] at e
    rw [← List.map_set, e, show n1 + 1 = (os ++ [cy]).length from hl.symm, fillL_full] at h
    obtain ⟨a', c', e2, h3⟩ := OwnL.arr (B := w.heap.size) h (hlo.append (Limbs.cons (by omega) Limbs.nil))
    simp only [Value.slice.injEq] at e2
    obtain ⟨rfl, _, rfl⟩ := e2
    rw [hl] at h3
    exact h3
  · rw [valL_append, hos, valL_one, hval, ← h1, List.take_length, List.take_of_length_le (by omega)]

set_option maxHeartbeats 4000000 in
theorem add_as (a b : Option Addr) (c d : Nat) (l m : List Nat) (w : World) (hA : Arr w a c l) (hB : Arr w b d m) (hl : (limbs (valL l)).length ≤ 4096) (hm : (limbs (valL m)).length ≤ 4096) (hlen : (limbs (valL m)).length ≤ (limbs (valL l)).length) :
    Calls Tryz.prog 108 #[.slice a l.length c, .slice b m.length d] w fun e w' => ∃ a' c', e = .returned (.tuple #[doneS a' (limbs (valL l + valL m)).length c', .int .i64 (doneE (limbs (valL l + valL m)).length)]) ∧ Arr w' a' c' (limbs (valL l + valL m)) ∧ Below w.heap.size w w' := by
  have hO := open2_in a b c d l m w hA hB hl hm
  obtain ⟨w2, hw2⟩ : ∃ w2, ((w.alloc (.cells #[.slice a (limbs (valL l)).length c] 22)).alloc (.cells #[.slice b (limbs (valL m)).length d] 22)).alloc (.cells #[.pointer (some ⟨w.heap.size, 0, none⟩), .pointer (some ⟨w.heap.size + 1, 0, none⟩)] 135) = w2 := ⟨_, rfl⟩
  have hB2 : Below w.heap.size w w2 := by rw [← hw2]; (repeat' (first | exact Below.refl _ _ | assumption | (refine below_alloc ?_ _) | (refine Below.setCell ?_ ?_ _) | (refine Below.drew ?_) | (refine below_drewN ?_ _))) <;> (first | (simp; done) | (simp; omega) | omega)
  have hsz : w2.heap.size = w.heap.size + 3 := by rw [← hw2]; simp
  have hAn := hA.norm
  have hBn := hB.norm
  rw [hw2] at hO
  obtain ⟨la, hla⟩ : ∃ la, limbs (valL l) = la := ⟨_, rfl⟩
  obtain ⟨lb, hlb⟩ : ∃ lb, limbs (valL m) = lb := ⟨_, rfl⟩
  rw [hla] at hl hlen hAn
  rw [hlb] at hm hlen hBn
  obtain ⟨n1, hn1⟩ : ∃ n1, la.length = n1 := ⟨_, rfl⟩
  obtain ⟨n2, hn2⟩ : ∃ n2, lb.length = n2 := ⟨_, rfl⟩
  rw [hn1] at hl hlen
  rw [hn2] at hm hlen
  have c1 : w2.cell? ⟨w.heap.size, 0, none⟩ = some (.slice a n1 c) := by rw [← hw2, hla, hn1]; simp [go_sem]
  have c2 : w2.cell? ⟨w.heap.size + 1, 0, none⟩ = some (.slice b n2 d) := by rw [← hw2, hlb, hn2]; simp [go_sem]
  have f1 : w2.frozen? ⟨w.heap.size, 0, none⟩ = false := by rw [← hw2]; simp [go_sem]
  have f2 : w2.frozen? ⟨w.heap.size + 1, 0, none⟩ = false := by rw [← hw2]; simp [go_sem]
  have hmk := run_make1 n1 (by omega)
  clear hw2
  have hN1 : valL la = valL l := by rw [← hla, valL_limbs]
  have hN2 : valL lb = valL m := by rw [← hlb, valL_limbs]
  go_enter Tryz.func108, Tryz.ntmps108
  go_wp2_with fail
  refine hO.mono ?_
  rintro e w' ⟨rfl, rfl⟩
  have HPA : Hid (∀ wr, Below w.heap.size w wr → Arr wr a c la) := Lib.hid fun wr h => hAn.below h
  have HPB : Hid (∀ wr, Below w.heap.size w wr → Arr wr b d lb) := Lib.hid fun wr h => hBn.below h
  have HB2 := Lib.hid hB2
  have HN1 := Lib.hid hN1
  have HN2 := Lib.hid hN2
  have Hn1 := Lib.hid hn1
  have Hn2 := Lib.hid hn2
  clear hAn hBn hA hB hO hB2 hN1 hN2 hn1 hn2 hla hlb
  have hge : ¬ (n1 < n2) := by omega
  go_wp2_with fail
  go_loopw [31] (fun v wr => ∃ (i : Nat) (os : List Nat) (cy : Nat), i ≤ n1 ∧ v = .int .i64 (i : Int) ∧ cy ≤ 1 ∧ Hid (AddRel w a b n1 n2 c d la lb i os cy wr)) (fun v _ => n1 - (intOf v).toNat)
  case atStart =>
    obtain ⟨w3, hw3⟩ : ∃ w3, w2 = w3 := ⟨_, rfl⟩
    have hsz3 : w3.heap.size = w.heap.size + 3 := by rw [← hw3]; exact hsz
    have d1 : w3.cell? ⟨w.heap.size, 0, none⟩ = some (.slice a n1 c) := by rw [← hw3]; exact c1
    have d2 : w3.cell? ⟨w.heap.size + 1, 0, none⟩ = some (.slice b n2 d) := by rw [← hw3]; exact c2
    have hB3 : Below w.heap.size w w3 := by rw [← hw3]; exact HB2.out
    rw [hw3]
    have ho := owns_zeros (w3.alloc (.cells #[.int .u64 0] 31)) w.heap.size (n1 + 1) (by simp; omega) (by omega)
    simp only [World.size_alloc, hsz3, ← fillL_nil] at ho
    refine ⟨0, [], 0, Nat.zero_le _, rfl, by omega, Lib.hid ⟨rfl, Limbs.nil, by omega, by simp [valL], ?_, ?_, Lib.cell?_alloc_some _ (Lib.cell?_alloc_some _ d1), Lib.cell?_alloc_some _ (Lib.cell?_alloc_some _ d2), ho, ?_⟩⟩
    · rw [← hsz3]; exact Lib.cell?_alloc_some _ (cell_new _ _ _)
    · rw [← hsz3]; simp [go_sem]
    · exact (hB3.alloc (by omega) _).alloc (by simp; omega) _
  case round =>
    obtain ⟨i, os, cy, hi, rfl, hcy, hR⟩ := hrel
    have k1 := hR.out.k1
    have k2 := hR.out.k2
    have k3 := hR.out.k3
    have k4 := hR.out.k4
    by_cases hlt : i < n1
    · obtain ⟨b1, o1, ea, hc1⟩ := (HPA.out wr hR.out.below).2.2.2 i (by have := Hn1.out; omega)
      obtain ⟨x, hx⟩ : ∃ x, la.getD i 0 = x := ⟨_, rfl⟩
      obtain ⟨y, hy⟩ : ∃ y, lb.getD i 0 = y := ⟨_, rfl⟩
      have hxl : x < 18446744073709551616 := by rw [← hx]; exact (HPA.out wr hR.out.below).2.2.1.get i
      have hyl : y < 18446744073709551616 := by rw [← hy]; exact (HPB.out wr hR.out.below).2.2.1.get i
      have HX := Lib.hid hx
      have HY := Lib.hid hy
      rw [hx] at hc1
      rw [ea] at k3
      have hco := hR.out.zero i rfl hi
      have hfo := hR.out.own.frozenAt i
      by_cases hi2 : i < n2
      · obtain ⟨b2, o2, eb, hc2⟩ := (HPB.out wr hR.out.below).2.2.2 i (by have := Hn2.out; omega)
        rw [hy] at hc2
        rw [eb] at k4
        clear hx hy ea eb
        go_wp2_with (go_at_call 157; (with_reducible refine (step_any _ _ _ _ _ (by assumption) (by assumption) (by omega) (by omega) (by omega) (by omega)).mono ?_); rintro e w' ⟨rfl, rfl⟩)
        go_roundw
        case rel => exact ⟨i + 1, os ++ [(x + y + cy) % 18446744073709551616], (x + y + cy) / 18446744073709551616, by omega, by go_num, by omega, Lib.hid (by refine hR.out.step hlt x y HX.out HY.out hxl hyl _ _ ?_ ?_ <;> simp)⟩
        case measure => simp [intOf]; omega
      · have hy0 : y = 0 := by rw [← hy]; simp [List.getD, List.getElem?_eq_none (show lb.length ≤ i by have := Hn2.out; omega)]
        clear hx hy ea
        subst hy0
        go_wp2_with (go_at_call 157; (with_reducible refine (step_any _ _ _ _ _ (by assumption) (by assumption) (by omega) (by omega) (by omega) (by omega)).mono ?_); rintro e w' ⟨rfl, rfl⟩)
        go_roundw
        case rel => exact ⟨i + 1, os ++ [(x + 0 + cy) % 18446744073709551616], (x + 0 + cy) / 18446744073709551616, by omega, by go_num, by omega, Lib.hid (by refine hR.out.step hlt x 0 HX.out HY.out hxl hyl _ _ ?_ ?_ <;> simp)⟩
        case measure => simp [intOf]; omega
    · obtain rfl : i = n1 := by omega
      have hco := hR.out.zero i rfl hi
      have hfo := hR.out.own.frozenAt i
      obtain ⟨hF1, hF2, hF3, hF4⟩ := hR.out.last Hn1.out (by have := Hn2.out; omega)
      have hD := done_both _ _ _ _ hF1
      rw [hF3, hF4, HN1.out, HN2.out] at hD
      have HF1 := Lib.hid hF1
      have HF2 := Lib.hid hF2
      have HF4 := Lib.hid hF4
      clear hF1 hF2 hF3 hF4
      go_wp2_with (go_at_call 136; (with_reducible refine hD.mono ?_); rintro e w' ⟨rfl, rfl⟩)
      go_ret2
      refine ⟨_, _, rfl, ?_, HF2.out⟩
      have h := HF1.out.norm
      rw [HF4.out, HN1.out, HN2.out] at h
      exact h

set_option maxHeartbeats 4000000 in
theorem add_turned (a b : Option Addr) (c d : Nat) (l m : List Nat) (w : World) (hA : Arr w a c l) (hB : Arr w b d m) (hl : (limbs (valL l)).length ≤ 4096) (hm : (limbs (valL m)).length ≤ 4096) (hlen : (limbs (valL l)).length < (limbs (valL m)).length) :
    Calls Tryz.prog 108 #[.slice a l.length c, .slice b m.length d] w fun e w' => ∃ a' c', e = .returned (.tuple #[doneS a' (limbs (valL l + valL m)).length c', .int .i64 (doneE (limbs (valL l + valL m)).length)]) ∧ Arr w' a' c' (limbs (valL l + valL m)) ∧ Below w.heap.size w w' := by
  have hO := open2_in a b c d l m w hA hB hl hm
  obtain ⟨w2, hw2⟩ : ∃ w2, ((w.alloc (.cells #[.slice a (limbs (valL l)).length c] 22)).alloc (.cells #[.slice b (limbs (valL m)).length d] 22)).alloc (.cells #[.pointer (some ⟨w.heap.size, 0, none⟩), .pointer (some ⟨w.heap.size + 1, 0, none⟩)] 135) = w2 := ⟨_, rfl⟩
  have hB2 : Below w.heap.size w w2 := by rw [← hw2]; (repeat' (first | exact Below.refl _ _ | assumption | (refine below_alloc ?_ _) | (refine Below.setCell ?_ ?_ _) | (refine Below.drew ?_) | (refine below_drewN ?_ _))) <;> (first | (simp; done) | (simp; omega) | omega)
  have hsz : w2.heap.size = w.heap.size + 3 := by rw [← hw2]; simp
  have hAn := hA.norm
  have hBn := hB.norm
  rw [hw2] at hO
  obtain ⟨la, hla⟩ : ∃ la, limbs (valL l) = la := ⟨_, rfl⟩
  obtain ⟨lb, hlb⟩ : ∃ lb, limbs (valL m) = lb := ⟨_, rfl⟩
  rw [hla] at hl hlen hAn
  rw [hlb] at hm hlen hBn
  obtain ⟨n1, hn1⟩ : ∃ n1, la.length = n1 := ⟨_, rfl⟩
  obtain ⟨n2, hn2⟩ : ∃ n2, lb.length = n2 := ⟨_, rfl⟩
  rw [hn1] at hl hlen
  rw [hn2] at hm hlen
  have c1 : w2.cell? ⟨w.heap.size, 0, none⟩ = some (.slice a n1 c) := by rw [← hw2, hla, hn1]; simp [go_sem]
  have c2 : w2.cell? ⟨w.heap.size + 1, 0, none⟩ = some (.slice b n2 d) := by rw [← hw2, hlb, hn2]; simp [go_sem]
  have f1 : w2.frozen? ⟨w.heap.size, 0, none⟩ = false := by rw [← hw2]; simp [go_sem]
  have f2 : w2.frozen? ⟨w.heap.size + 1, 0, none⟩ = false := by rw [← hw2]; simp [go_sem]
  have hmk := run_make1 n2 (by omega)
  clear hw2
  have hN1 : valL la = valL l := by rw [← hla, valL_limbs]
  have hN2 : valL lb = valL m := by rw [← hlb, valL_limbs]
  go_enter Tryz.func108, Tryz.ntmps108
  go_wp2_with fail
  refine hO.mono ?_
  rintro e w' ⟨rfl, rfl⟩
  have HPA : Hid (∀ wr, Below w.heap.size w wr → Arr wr a c la) := Lib.hid fun wr h => hAn.below h
  have HPB : Hid (∀ wr, Below w.heap.size w wr → Arr wr b d lb) := Lib.hid fun wr h => hBn.below h
  have HB2 := Lib.hid hB2
  have HN1 := Lib.hid hN1
  have HN2 := Lib.hid hN2
  have Hn1 := Lib.hid hn1
  have Hn2 := Lib.hid hn2
  clear hAn hBn hA hB hO hB2 hN1 hN2 hn1 hn2 hla hlb
  have hlt : n1 < n2 := hlen
  go_wp2_with fail
  go_loopw [31] (fun v wr => ∃ (i : Nat) (os : List Nat) (cy : Nat), i ≤ n2 ∧ v = .int .i64 (i : Int) ∧ cy ≤ 1 ∧ Hid (AddRel w b a n2 n1 d c lb la i os cy wr)) (fun v _ => n2 - (intOf v).toNat)
  case atStart =>
    obtain ⟨w3, hw3⟩ : ∃ w3, ((w2.setCell ⟨w.heap.size, 0, none⟩ (.slice b n2 d)).setCell ⟨w.heap.size + 1, 0, none⟩ (.slice a n1 c)) = w3 := ⟨_, rfl⟩
    have hsz3 : w3.heap.size = w.heap.size + 3 := by rw [← hw3]; simp [hsz]
    have d1 : w3.cell? ⟨w.heap.size, 0, none⟩ = some (.slice b n2 d) := by rw [← hw3]; exact (World.cell?_setCell_other _ _ _ _ (by simp)).trans (World.cell?_setCell_same' _ _ _ (by rw [c1]; rfl))
    have d2 : w3.cell? ⟨w.heap.size + 1, 0, none⟩ = some (.slice a n1 c) := by rw [← hw3]; exact World.cell?_setCell_same' _ _ _ (by rw [World.cell?_setCell_other _ _ _ _ (by simp), c2]; rfl)
    have hB3 : Below w.heap.size w w3 := by rw [← hw3]; exact (HB2.out.setCell (Nat.le_refl _) _).setCell (by simp) _
    rw [hw3]
    have ho := owns_zeros (w3.alloc (.cells #[.int .u64 0] 31)) w.heap.size (n2 + 1) (by simp; omega) (by omega)
    simp only [World.size_alloc, hsz3, ← fillL_nil] at ho
    refine ⟨0, [], 0, Nat.zero_le _, rfl, by omega, Lib.hid ⟨rfl, Limbs.nil, by omega, by simp [valL], ?_, ?_, Lib.cell?_alloc_some _ (Lib.cell?_alloc_some _ d1), Lib.cell?_alloc_some _ (Lib.cell?_alloc_some _ d2), ho, ?_⟩⟩
    · rw [← hsz3]; exact Lib.cell?_alloc_some _ (cell_new _ _ _)
    · rw [← hsz3]; simp [go_sem]
    · exact (hB3.alloc (by omega) _).alloc (by simp; omega) _
  case round =>
    obtain ⟨i, os, cy, hi, rfl, hcy, hR⟩ := hrel
    have k1 := hR.out.k1
    have k2 := hR.out.k2
    have k3 := hR.out.k3
    have k4 := hR.out.k4
    by_cases hlt : i < n2
    · obtain ⟨b1, o1, ea, hc1⟩ := (HPB.out wr hR.out.below).2.2.2 i (by have := Hn2.out; omega)
      obtain ⟨x, hx⟩ : ∃ x, lb.getD i 0 = x := ⟨_, rfl⟩
      obtain ⟨y, hy⟩ : ∃ y, la.getD i 0 = y := ⟨_, rfl⟩
      have hxl : x < 18446744073709551616 := by rw [← hx]; exact (HPB.out wr hR.out.below).2.2.1.get i
      have hyl : y < 18446744073709551616 := by rw [← hy]; exact (HPA.out wr hR.out.below).2.2.1.get i
      have HX := Lib.hid hx
      have HY := Lib.hid hy
      rw [hx] at hc1
      rw [ea] at k3
      have hco := hR.out.zero i rfl hi
      have hfo := hR.out.own.frozenAt i
      by_cases hi2 : i < n1
      · obtain ⟨b2, o2, eb, hc2⟩ := (HPA.out wr hR.out.below).2.2.2 i (by have := Hn1.out; omega)
        rw [hy] at hc2
        rw [eb] at k4
        clear hx hy ea eb
        go_wp2_with (go_at_call 157; (with_reducible refine (step_any _ _ _ _ _ (by assumption) (by assumption) (by omega) (by omega) (by omega) (by omega)).mono ?_); rintro e w' ⟨rfl, rfl⟩)
        go_roundw
        case rel => exact ⟨i + 1, os ++ [(x + y + cy) % 18446744073709551616], (x + y + cy) / 18446744073709551616, by omega, by go_num, by omega, Lib.hid (by refine hR.out.step hlt x y HX.out HY.out hxl hyl _ _ ?_ ?_ <;> simp)⟩
        case measure => simp [intOf]; omega
      · have hy0 : y = 0 := by rw [← hy]; simp [List.getD, List.getElem?_eq_none (show la.length ≤ i by have := Hn1.out; omega)]
        clear hx hy ea
        subst hy0
        go_wp2_with (go_at_call 157; (with_reducible refine (step_any _ _ _ _ _ (by assumption) (by assumption) (by omega) (by omega) (by omega) (by omega)).mono ?_); rintro e w' ⟨rfl, rfl⟩)
        go_roundw
        case rel => exact ⟨i + 1, os ++ [(x + 0 + cy) % 18446744073709551616], (x + 0 + cy) / 18446744073709551616, by omega, by go_num, by omega, Lib.hid (by refine hR.out.step hlt x 0 HX.out HY.out hxl hyl _ _ ?_ ?_ <;> simp)⟩
        case measure => simp [intOf]; omega
    · obtain rfl : i = n2 := by omega
      have hco := hR.out.zero i rfl hi
      have hfo := hR.out.own.frozenAt i
      obtain ⟨hF1, hF2, hF3, hF4⟩ := hR.out.last Hn2.out (by have := Hn1.out; omega)
      have hD := done_both _ _ _ _ hF1
      rw [hF3, hF4, HN2.out, HN1.out, Nat.add_comm (valL m) (valL l)] at hD
      have HF1 := Lib.hid hF1
      have HF2 := Lib.hid hF2
      have HF4 := Lib.hid hF4
      clear hF1 hF2 hF3 hF4
      go_wp2_with (go_at_call 136; (with_reducible refine hD.mono ?_); rintro e w' ⟨rfl, rfl⟩)
      go_ret2
      refine ⟨_, _, rfl, ?_, HF2.out⟩
      have h := HF1.out.norm
      rw [HF4.out, HN2.out, HN1.out, Nat.add_comm (valL m) (valL l)] at h
      exact h

/-- nat.Add at every two numbers that may be. -/
theorem add_any (a b : Option Addr) (c d : Nat) (l m : List Nat) (w : World) (hA : Arr w a c l) (hB : Arr w b d m) (hl : (limbs (valL l)).length ≤ 4096) (hm : (limbs (valL m)).length ≤ 4096) :
    Calls Tryz.prog 108 #[.slice a l.length c, .slice b m.length d] w fun e w' => ∃ a' c', e = .returned (.tuple #[doneS a' (limbs (valL l + valL m)).length c', .int .i64 (doneE (limbs (valL l + valL m)).length)]) ∧ Arr w' a' c' (limbs (valL l + valL m)) ∧ Below w.heap.size w w' := by
  by_cases h : (limbs (valL m)).length ≤ (limbs (valL l)).length
  · exact add_as a b c d l m w hA hB hl hm h
  · exact add_turned a b c d l m w hA hB hl hm (by omega)
end Go.Proofs.YtjlaadadbpffdaaGreatDoor
