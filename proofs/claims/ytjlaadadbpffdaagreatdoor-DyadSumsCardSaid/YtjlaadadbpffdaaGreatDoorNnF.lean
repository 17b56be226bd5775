/-
  NatF, NatG, NatI: as one text.
-/
import Derived.Test.YtjlaadadbpffdaaGreatDoorNnA
import Derived.Test.YtjlaadadbpffdaaGreatDoorNnL
import Derived.Test.YtjlaadadbpffdaaGreatDoorNatE
import Derived.Lib.Mul64
set_option linter.unusedSimpArgs false
set_option linter.unusedVariables false
namespace Go.Proofs.YtjlaadadbpffdaaGreatDoor
open Go.RowKit Go.Plumb

theorem borrowI_nat (x y b : Nat) : borrowI (x : Int) (y : Int) (b : Int) = ((borrowN x y b : Nat) : Int) := by
  unfold borrowI borrowN
  by_cases h : x < y + b
  · rw [if_pos h, if_pos (by omega)]; rfl
  · rw [if_neg h, if_neg (by omega)]; rfl
theorem subI_nat (x y b : Nat) (hx : x < 18446744073709551616) (hy : y < 18446744073709551616) (hb : b ≤ 1) : ((x : Int) - y - b) % 18446744073709551616 = ((subN x y b : Nat) : Int) := by
  unfold subN; omega
theorem borrowI_zero (x b : Nat) : borrowI (x : Int) 0 (b : Int) = ((borrowN x 0 b : Nat) : Int) := borrowI_nat x 0 b
theorem subI_zero (x b : Nat) (hx : x < 18446744073709551616) (hb : b ≤ 1) : ((x : Int) - b) % 18446744073709551616 = ((subN x 0 b : Nat) : Int) := by
  unfold subN; omega
/-- The limbs of a number are its list, cut. -/
theorem Arr.norm_take {w : World} {a : Option Addr} {c : Nat} {l : List Nat} (h : Arr w a c l) : l.take (limbs (valL l)).length = limbs (valL l) := limbs_take h.2.2.1
theorem OwnL.pos {w : World} {B : Nat} {v : Value} {l : List Nat} (h : OwnL w B v l) (h0 : 0 < l.length) : ∃ g cap, v = .slice (some ⟨g, 0, none⟩) l.length cap ∧ B ≤ g ∧ g < w.heap.size ∧ cap ≤ maxLen ∧ l.length ≤ cap := by
  obtain ⟨_, ⟨rfl, h1⟩ | ⟨g, cap, cur, rfl, hg, hh, hn, hcap, hsz, htake⟩⟩ := h
  · omega
  · exact ⟨g, cap, rfl, hg, (Array.getElem?_eq_some_iff.1 hh).1, hcap, hn⟩
/-- A shorter slice of what is owned owns its part. -/
theorem OwnL.take {w : World} {B : Nat} {a : Option Addr} {c : Nat} {l : List Nat} (h : OwnL w B (.slice a l.length c) l) (m : Nat) (hm : m ≤ l.length) (ha : a ≠ none) : OwnL w B (.slice a m c) (l.take m) := by
  obtain ⟨hx, ⟨e, h1⟩ | ⟨g, cap, cur, e, hg, hh, hn, hcap, hsz, htake⟩⟩ := h
  · simp only [Value.slice.injEq] at e; exact absurd e.1 ha
  · simp only [Value.slice.injEq] at e
    obtain ⟨rfl, _, rfl⟩ := e
    have hl : (l.take m).length = m := by simp; omega
    refine ⟨by simp, .inr ⟨g, c, cur, by rw [hl], hg, hh, by rw [hl]; omega, hcap, hsz, ?_⟩⟩
    rw [hl, List.map_take, ← htake, List.take_take]
    congr 1
    omega
theorem OwnL.take_of {w : World} {B : Nat} {g c : Nat} {l l' : List Nat} (h : OwnL w B (.slice (some ⟨g, 0, none⟩) l.length c) l) (h' : l.take l'.length = l') : OwnL w B (.slice (some ⟨g, 0, none⟩) (l.take l'.length).length c) (l.take l'.length) := by
  have hm : l'.length ≤ l.length := by
    have := congrArg List.length h'
    rw [List.length_take] at this
    omega
  have := OwnL.take h l'.length hm (by simp)
  rwa [show (l.take l'.length).length = l'.length by rw [h']]
theorem clone_pos (a : Option Addr) (c : Nat) (l : List Nat) (w : World) (h : Arr w a c l) (hbig : l.length ≤ 1000000) (h0 : 0 < l.length) :
    Calls Tryz.prog 160 #[.slice a l.length c] w fun e w' => ∃ g cap, e = .returned (.slice (some ⟨g, 0, none⟩) l.length cap) ∧ OwnL w' w.heap.size (.slice (some ⟨g, 0, none⟩) l.length cap) l ∧ Below w.heap.size w w' ∧ w.heap.size ≤ g := by
  refine (clone_any a c l w h hbig).mono ?_
  rintro e w' ⟨v, rfl, ho, hb⟩
  obtain ⟨g, cap, rfl, h1, _⟩ := ho.pos h0
  exact ⟨g, cap, rfl, ho, hb, h1⟩

/-- What holds at the head of each round of sub. -/
structure SubRel (w : World) (g cap : Nat) (la lb : List Nat) (i : Nat) (os : List Nat) (bo : Nat) (wr : World) : Prop where
  len : os.length = i
  limbs : Limbs os
  val : valL os + valL (lb.take i) = valL (la.take i) + 18446744073709551616 ^ i * bo
  own : OwnL wr w.heap.size (.slice (some ⟨g, 0, none⟩) la.length cap) (overL os la)
  below : Below w.heap.size w wr
theorem OwnL.len {w : World} {B : Nat} {a : Option Addr} {n c : Nat} {l : List Nat} (h : OwnL w B (.slice a n c) l) : n = l.length := by
  obtain ⟨_, ⟨e, h1⟩ | ⟨g, cap, cur, e, _⟩⟩ := h
  · simp only [Value.slice.injEq] at e; omega
  · simp only [Value.slice.injEq] at e; exact e.2.1
theorem OwnL.cell {w : World} {B : Nat} {g n c : Nat} {l : List Nat} (h : OwnL w B (.slice (some ⟨g, 0, none⟩) n c) l) (j x : Nat) (hj : l[j]? = some x) : w.cell? ⟨g, j, none⟩ = some (.int .u64 (x : Int)) := by
  have hn := (List.getElem?_eq_some_iff.1 hj).1
  obtain rfl := h.len
  unfold OwnL at h
  have h2 := World.ownsRow.cellAt h j (by omega)
  rw [h2, List.getElem?_map, hj]; rfl
theorem OwnL.thaw {w : World} {B : Nat} {g n c : Nat} {l : List Nat} (h : OwnL w B (.slice (some ⟨g, 0, none⟩) n c) l) (j : Nat) : w.frozen? ⟨g, j, none⟩ = false := by
  obtain rfl := h.len
  unfold OwnL at h
  exact World.ownsRow.frozenAt h j
theorem OwnL.store {w : World} {B : Nat} {g n c : Nat} {l : List Nat} (h : OwnL w B (.slice (some ⟨g, 0, none⟩) n c) l) (j x : Nat) (v : Int) (hv : v = (x : Int)) : OwnL (w.setCell ⟨g, j, none⟩ (.int .u64 v)) B (.slice (some ⟨g, 0, none⟩) n c) (l.set j x) := by
  subst hv
  obtain rfl := h.len
  unfold OwnL at h
  have := (World.ownsRow.stored h j (limbV x)).1
  rw [← List.map_set] at this
  unfold OwnL
  rw [List.length_set]
  exact this
theorem SubRel.step {w : World} {g cap : Nat} {la lb : List Nat} {i : Nat} {os : List Nat} {bo : Nat} {wr : World} (h : SubRel w g cap la lb i os bo wr) (hgw : w.heap.size ≤ g) (hi : i < la.length) (hbo : bo ≤ 1) (x y : Nat) (hx : la.getD i 0 = x) (hy : lb.getD i 0 = y) (hxl : x < 18446744073709551616) (hyl : y < 18446744073709551616) (v : Int) (hv : v = ((subN x y bo : Nat) : Int)) :
    SubRel w g cap la lb (i + 1) (os ++ [subN x y bo]) (borrowN x y bo) (wr.setCell ⟨g, i, none⟩ (.int .u64 v)) := by
  obtain ⟨hos, hlo, hval, hown, hB⟩ := h
  refine ⟨by simp [hos], hlo.append (Limbs.cons (Nat.mod_lt _ (by decide)) Limbs.nil), subs_step la lb os i bo x y hos hbo hxl hyl hval hx hy, ?_, hB.setCell hgw _⟩
  have := hown.store i _ v hv
  rw [← hos, overL_set os la _ (by omega)] at this
  rw [← hos]
  exact this
set_option maxHeartbeats 2000000 in
theorem sub_core (a b : Option Addr) (c d : Nat) (la lb : List Nat) (w : World) (hA : Arr w a c la) (hB : Arr w b d lb) (h0 : 0 < la.length) (hbig : la.length ≤ 1000000) (hle : valL lb ≤ valL la) (hlen : lb.length ≤ la.length) :
    Calls Tryz.prog 146 #[.slice a la.length c, .slice b lb.length d] w fun e w' => ∃ g cap, e = .returned (.slice (some ⟨g, 0, none⟩) (limbs (valL la - valL lb)).length cap) ∧ OwnL w' w.heap.size (.slice (some ⟨g, 0, none⟩) (limbs (valL la - valL lb)).length cap) (limbs (valL la - valL lb)) ∧ Below w.heap.size w w' := by
  have hC := clone_pos a c la w hA hbig h0
  have HA : Hid (∀ wr, Below w.heap.size w wr → Arr wr a c la) := Lib.hid fun wr h => hA.below h
  have HB : Hid (∀ wr, Below w.heap.size w wr → Arr wr b d lb) := Lib.hid fun wr h => hB.below h
  obtain ⟨n1, hn1⟩ : ∃ n1, la.length = n1 := ⟨_, rfl⟩
  obtain ⟨n2, hn2⟩ : ∃ n2, lb.length = n2 := ⟨_, rfl⟩
  have HL : Hid (valL lb ≤ valL la) := Lib.hid hle
  have Hn1 := Lib.hid hn1
  have Hn2 := Lib.hid hn2
  rw [hn1] at hC h0 hbig hlen
  rw [hn1, hn2]
  rw [hn2] at hlen
  have hsubr := run_sub
  clear hA hB hle hn1 hn2
  go_enter Tryz.func146, Tryz.ntmps146
  go_wp2_with fail
  refine hC.mono ?_
  rintro e w1 ⟨g, cap, rfl, hown, hb, hgw⟩
  have HO := Lib.hid hown
  have Hg := Lib.hid hgw
  have HBl := Lib.hid hb
  clear hC hown hb
  go_wp2_with fail
  go_loopw [6, 13] (fun u v wr => ∃ (i : Nat) (os : List Nat) (bo : Nat), i ≤ n1 ∧ v = .int .i64 (i : Int) ∧ u = .int .u64 (bo : Int) ∧ bo ≤ 1 ∧ Hid (SubRel w g cap la lb i os bo wr)) (fun _ v _ => n1 - (intOf v).toNat)
  case atStart => exact ⟨0, [], 0, Nat.zero_le _, rfl, rfl, by omega, Lib.hid ⟨rfl, Limbs.nil, by simp [valL], by rw [overL_nil, Hn1.out]; exact HO.out, HBl.out⟩⟩
  case round =>
    obtain ⟨i, os, bo, hi, rfl, rfl, hbo, hR⟩ := hrel
    by_cases hlt : i < n1
    · obtain ⟨b1, o1, ea, hc1⟩ := (HA.out wr hR.out.below).2.2.2 i (by have := Hn1.out; omega)
      obtain ⟨x, hx⟩ : ∃ x, la.getD i 0 = x := ⟨_, rfl⟩
      obtain ⟨y, hy⟩ : ∃ y, lb.getD i 0 = y := ⟨_, rfl⟩
      have hxl : x < 18446744073709551616 := by rw [← hx]; exact (HA.out wr hR.out.below).2.2.1.get i
      have hyl : y < 18446744073709551616 := by rw [← hy]; exact (HB.out wr hR.out.below).2.2.1.get i
      have HX := Lib.hid hx
      have HY := Lib.hid hy
      rw [hx] at hc1
      have hco : wr.cell? ⟨g, i, none⟩ = some (.int .u64 (x : Int)) := by
        refine hR.out.own.cell i x ?_
        have h1 := hR.out.len
        have h2 := Hn1.out
        rw [← h1, overL_at, h1, List.getElem?_eq_getElem (by omega), ← HX.out]
        simp [List.getD, show i < la.length by omega]
      have hfo := hR.out.own.thaw i
      subst ea
      have hrs := hsubr x y bo (by omega) (by omega) (by omega) (by omega) (by omega)
      by_cases hi2 : i < n2
      · obtain ⟨b2, o2, eb, hc2⟩ := (HB.out wr hR.out.below).2.2.2 i (by have := Hn2.out; omega)
        rw [hy] at hc2
        subst eb
        clear hx hy
        go_wp2_with fail
        go_roundw
        case rel => exact ⟨i + 1, os ++ [subN x y bo], borrowN x y bo, by omega, by go_num, congrArg _ (borrowI_nat x y bo), borrowN_le _ _ _, Lib.hid (hR.out.step Hg.out (by have := Hn1.out; omega) hbo x y HX.out HY.out hxl hyl _ (subI_nat x y bo hxl hyl hbo))⟩
        case measure => simp [intOf]; omega
      · have hy0 : y = 0 := by rw [← hy]; simp [List.getD, List.getElem?_eq_none (show lb.length ≤ i by have := Hn2.out; omega)]
        clear hx hy
        subst hy0
        have hrs0 := hsubr x 0 bo (by omega) (by omega) (by omega) (by omega) (by omega)
        simp only [Int.sub_zero] at hrs0
        clear hrs hsubr hyl
        go_wp2_with fail
        go_roundw
        case rel => exact ⟨i + 1, os ++ [subN x 0 bo], borrowN x 0 bo, by omega, by go_num, congrArg _ (borrowI_zero x bo), borrowN_le _ _ _, Lib.hid (hR.out.step Hg.out (by have := Hn1.out; omega) hbo x 0 HX.out HY.out hxl (by omega) _ (subI_zero x bo hxl hbo))⟩
        case measure => simp [intOf]; omega
    · obtain rfl : i = n1 := by omega
      have hE := subs_end la lb os bo (by rw [hR.out.len, Hn1.out]) hR.out.limbs HL.out (by have := Hn1.out; have := Hn2.out; omega) (by rw [Hn1.out]; exact hR.out.val)
      have hOw := hR.out.own
      rw [overL_full os la (by rw [hR.out.len, Hn1.out]), Hn1.out] at hOw
      obtain ⟨a', c', e2, harr⟩ := hOw.arr hR.out.limbs
      simp only [Value.slice.injEq] at e2
      obtain ⟨rfl, e3, rfl⟩ := e2
      clear e3
      have hT := trim_any _ _ _ _ harr
      rw [hR.out.len, hE] at hT
      have HOw := Lib.hid hOw
      have HArr := Lib.hid harr
      have HE := Lib.hid hE
      clear hE hOw harr
      go_wp2_with (go_at_call 143; (with_reducible refine hT.mono ?_); rintro e w' ⟨rfl, rfl⟩)
      go_ret
      refine ⟨g, cap, rfl, ?_, hR.out.below⟩
      have hn := Arr.norm_take HArr.out
      rw [HE.out] at hn
      rw [← hn]
      have h2 := HOw.out
      rw [← hR.out.len] at h2
      exact OwnL.take_of h2 hn
theorem OwnL.shape {w : World} {B : Nat} {v : Value} {l : List Nat} (h : OwnL w B v l) : ∃ a c, v = .slice a l.length c := by
  obtain ⟨_, ⟨rfl, h1⟩ | ⟨g, cap, cur, rfl, _⟩⟩ := h
  · exact ⟨none, 0, by rw [h1]⟩
  · exact ⟨_, _, rfl⟩
theorem sub_nil (a b : Option Addr) (c d n : Nat) (w : World) (hA : Arr w a c []) :
    Calls Tryz.prog 146 #[.slice a 0 c, .slice b n d] w fun e w' => ∃ a' c', e = .returned (.slice a' 0 c') ∧ OwnL w' w.heap.size (.slice a' 0 c') [] ∧ Below w.heap.size w w' := by
  have hC := clone_any a c [] w hA (by simp)
  simp only [List.length_nil] at hC
  have hT := trim_none
  go_enter Tryz.func146, Tryz.ntmps146
  go_wp2_with fail
  refine hC.mono ?_
  rintro e w1 ⟨v, rfl, hown, hb⟩
  obtain ⟨a', c', rfl⟩ := hown.shape
  simp only [List.length_nil] at hown ⊢
  have HO := Lib.hid hown
  have HB := Lib.hid hb
  clear hC hown hb hA
  go_wp2_with fail
  go_loopw [6, 13] (fun u v wr => u = .int .u64 0 ∧ v = .int .i64 0 ∧ Hid (wr = w1)) (fun _ v _ => 0)
  case atStart => exact ⟨rfl, rfl, Lib.hid rfl⟩
  case round =>
    obtain ⟨rfl, rfl, hw⟩ := hrel
    have e := hw.out
    subst e
    go_wp2_with (go_at_call 143; (with_reducible refine (trim_none _ _ _).mono ?_); rintro e w' ⟨rfl, rfl⟩)
    go_ret
    exact ⟨a', c', rfl, HO.out, HB.out⟩
/-- nat.sub of two normal numbers. -/
theorem sub_any (a b : Option Addr) (c d A B : Nat) (w : World) (hA : Arr w a c (limbs A)) (hB : Arr w b d (limbs B)) (hlA : (limbs A).length ≤ 1000000) (hle : B ≤ A) :
    Calls Tryz.prog 146 #[.slice a (limbs A).length c, .slice b (limbs B).length d] w fun e w' => ∃ a' c', e = .returned (.slice a' (limbs (A - B)).length c') ∧ OwnL w' w.heap.size (.slice a' (limbs (A - B)).length c') (limbs (A - B)) ∧ Below w.heap.size w w' := by
  by_cases h0 : limbs A = []
  · have hA0 := (limbs_nil_iff A).1 h0
    subst hA0
    obtain rfl : B = 0 := by omega
    rw [Nat.sub_zero, limbs_zero] at *
    exact sub_nil a b c d _ w hA
  · have hlen : (limbs B).length ≤ (limbs A).length := by
      apply Nat.le_of_not_lt
      intro h
      have := lt_of_length h
      omega
    have h := sub_core a b c d (limbs A) (limbs B) w hA hB (List.length_pos_iff.2 h0) hlA (by rw [valL_limbs, valL_limbs]; exact hle) hlen
    rw [valL_limbs, valL_limbs] at h
    refine h.mono ?_
    rintro e w' ⟨g, cap, he, ho, hb⟩
    exact ⟨_, cap, he, ho, hb⟩
theorem cmpN_lt (a b : Nat) : (cmpN a b < 0) ↔ a < b := by unfold cmpN; split <;> (try split) <;> omega

set_option maxHeartbeats 1000000 in
/-- nat.Sub at every two numbers that may be: the difference. -/
theorem Sub_ok (a b : Option Addr) (c d : Nat) (l m : List Nat) (w : World) (hA : Arr w a c l) (hB : Arr w b d m) (hl : (limbs (valL l)).length ≤ 4096) (hm : (limbs (valL m)).length ≤ 4096) (hle : valL m ≤ valL l) :
    Calls Tryz.prog 110 #[.slice a l.length c, .slice b m.length d] w fun e w' => ∃ a' c', e = .returned (.tuple #[.slice a' (limbs (valL l - valL m)).length c', .int .i64 0]) ∧ Arr w' a' c' (limbs (valL l - valL m)) ∧ Below w.heap.size w w' := by
  have hO := open2_in a b c d l m w hA hB hl hm
  obtain ⟨w2, hw2⟩ : ∃ w2, ((w.alloc (.cells #[.slice a (limbs (valL l)).length c] 22)).alloc (.cells #[.slice b (limbs (valL m)).length d] 22)).alloc (.cells #[.pointer (some ⟨w.heap.size, 0, none⟩), .pointer (some ⟨w.heap.size + 1, 0, none⟩)] 135) = w2 := ⟨_, rfl⟩
  have hB2 : Below w.heap.size w w2 := by rw [← hw2]; (repeat' (first | exact Below.refl _ _ | assumption | (refine below_alloc ?_ _) | (refine Below.setCell ?_ ?_ _) | (refine Below.drew ?_) | (refine below_drewN ?_ _))) <;> (first | (simp; done) | (simp; omega) | omega)
  have hAn := hA.norm.below hB2
  have hBn := hB.norm.below hB2
  rw [hw2] at hO
  have c1 : w2.cell? ⟨w.heap.size, 0, none⟩ = some (.slice a (limbs (valL l)).length c) := by rw [← hw2]; simp [go_sem]
  have c2 : w2.cell? ⟨w.heap.size + 1, 0, none⟩ = some (.slice b (limbs (valL m)).length d) := by rw [← hw2]; simp [go_sem]
  have hs2 : w.heap.size + 1 < w2.heap.size := by rw [← hw2]; simp
  clear hw2
  obtain ⟨s, hs⟩ : ∃ s, cmpN (valL l) (valL m) = s := ⟨_, rfl⟩
  have hs0 : ¬ s < 0 := by rw [← hs, cmpN_lt]; omega
  have hcmp := cmp_any a b c d (valL l) (valL m) w2 hAn hBn
  rw [hs] at hcmp
  go_enter Tryz.func110, Tryz.ntmps110
  go_wp2_with fail
  refine hO.mono ?_
  rintro e w' ⟨rfl, rfl⟩
  have HA : Hid (∀ wr, Below w.heap.size w wr → Arr wr a c (limbs (valL l))) := Lib.hid fun wr h => hA.norm.below h
  have HB : Hid (∀ wr, Below w.heap.size w wr → Arr wr b d (limbs (valL m))) := Lib.hid fun wr h => hB.norm.below h
  have HB2 := Lib.hid hB2
  clear hA hB hAn hBn hO hB2
  go_wp2_with fail
  refine hcmp.mono ?_
  rintro e w3 ⟨rfl, hb3⟩
  have k1 := (hb3.cell (p := ⟨w.heap.size, 0, none⟩) (by simp; omega)).trans c1
  have k2 := (hb3.cell (p := ⟨w.heap.size + 1, 0, none⟩) hs2).trans c2
  have HB3 := Lib.hid (below_step HB2.out hb3)
  have hS := sub_any a b c d (valL l) (valL m) w3 (HA.out _ HB3.out) (HB.out _ HB3.out) (by omega) hle
  clear hb3 hcmp c1 c2 hs
  go_wp2_with fail
  refine hS.mono ?_
  rintro e w4 ⟨a', c', rfl, ho, hb4⟩
  have HO := Lib.hid ho
  have HB4 := Lib.hid (below_step HB3.out hb4)
  clear hS ho hb4
  go_wp2_with fail
  go_ret2
  obtain ⟨a2, c2, e2, harr⟩ := HO.out.arr (limbs_limbs _)
  simp only [Value.slice.injEq] at e2
  obtain ⟨rfl, _, rfl⟩ := e2
  exact ⟨_, _, rfl, harr, HB4.out⟩

set_option maxHeartbeats 1000000 in
/-- nat.Sub at every two numbers that may be: refused, where it would be below 0. -/
theorem Sub_less (a b : Option Addr) (c d : Nat) (l m : List Nat) (w : World) (hA : Arr w a c l) (hB : Arr w b d m) (hl : (limbs (valL l)).length ≤ 4096) (hm : (limbs (valL m)).length ≤ 4096) (hlt : valL l < valL m) :
    Calls Tryz.prog 110 #[.slice a l.length c, .slice b m.length d] w fun e w' => e = .returned (.tuple #[.slice none 0 0, .int .i64 2]) ∧ Below w.heap.size w w' := by
  have hO := open2_in a b c d l m w hA hB hl hm
  obtain ⟨w2, hw2⟩ : ∃ w2, ((w.alloc (.cells #[.slice a (limbs (valL l)).length c] 22)).alloc (.cells #[.slice b (limbs (valL m)).length d] 22)).alloc (.cells #[.pointer (some ⟨w.heap.size, 0, none⟩), .pointer (some ⟨w.heap.size + 1, 0, none⟩)] 135) = w2 := ⟨_, rfl⟩
  have hB2 : Below w.heap.size w w2 := by rw [← hw2]; (repeat' (first | exact Below.refl _ _ | assumption | (refine below_alloc ?_ _) | (refine Below.setCell ?_ ?_ _) | (refine Below.drew ?_) | (refine below_drewN ?_ _))) <;> (first | (simp; done) | (simp; omega) | omega)
  have hAn := hA.norm.below hB2
  have hBn := hB.norm.below hB2
  rw [hw2] at hO
  have c1 : w2.cell? ⟨w.heap.size, 0, none⟩ = some (.slice a (limbs (valL l)).length c) := by rw [← hw2]; simp [go_sem]
  have c2 : w2.cell? ⟨w.heap.size + 1, 0, none⟩ = some (.slice b (limbs (valL m)).length d) := by rw [← hw2]; simp [go_sem]
  have hs2 : w.heap.size + 1 < w2.heap.size := by rw [← hw2]; simp
  clear hw2
  obtain ⟨s, hs⟩ : ∃ s, cmpN (valL l) (valL m) = s := ⟨_, rfl⟩
  have hs0 : s < 0 := by rw [← hs, cmpN_lt]; omega
  have hcmp := cmp_any a b c d (valL l) (valL m) w2 hAn hBn
  rw [hs] at hcmp
  go_enter Tryz.func110, Tryz.ntmps110
  go_wp2_with fail
  refine hO.mono ?_
  rintro e w' ⟨rfl, rfl⟩
  have HA : Hid (∀ wr, Below w.heap.size w wr → Arr wr a c (limbs (valL l))) := Lib.hid fun wr h => hA.norm.below h
  have HB : Hid (∀ wr, Below w.heap.size w wr → Arr wr b d (limbs (valL m))) := Lib.hid fun wr h => hB.norm.below h
  have HB2 := Lib.hid hB2
  clear hA hB hAn hBn hO hB2
  go_wp2_with fail
  refine hcmp.mono ?_
  rintro e w3 ⟨rfl, hb3⟩
  have k1 := (hb3.cell (p := ⟨w.heap.size, 0, none⟩) (by simp; omega)).trans c1
  have k2 := (hb3.cell (p := ⟨w.heap.size + 1, 0, none⟩) hs2).trans c2
  have HB3 := Lib.hid (below_step HB2.out hb3)
  clear hb3 hcmp c1 c2 hs
  go_wp2_with fail
  go_ret2
  exact ⟨rfl, HB3.out⟩
end Go.Proofs.YtjlaadadbpffdaaGreatDoor

namespace Go.Plumb
open Go.RowKit
theorem mul64_plain (x y : Nat) (hx : x < 18446744073709551616) (hy : y < 18446744073709551616) :
    (IntKind.u64.wrap
              (IntKind.u64.wrap
                  (IntKind.u64.wrap ((x : Int) / 4294967296 * ((y : Int) / 4294967296)) +
                    IntKind.u64.wrap
                        (IntKind.u64.wrap ((x : Int) / 4294967296 * ((y : Int) % 4294967296)) +
                          IntKind.u64.wrap ((x : Int) % 4294967296 * ((y : Int) % 4294967296)) / 4294967296) /
                      4294967296) +
                IntKind.u64.wrap
                    (bits BinOp.and IntKind.u64
                        (IntKind.u64.wrap
                          (IntKind.u64.wrap ((x : Int) / 4294967296 * ((y : Int) % 4294967296)) +
                            IntKind.u64.wrap ((x : Int) % 4294967296 * ((y : Int) % 4294967296)) / 4294967296))
                        4294967295 +
                      IntKind.u64.wrap ((x : Int) % 4294967296 * ((y : Int) / 4294967296))) /
                  4294967296)) = ((x * y / 18446744073709551616 : Nat) : Int) ∧ IntKind.u64.wrap ((x : Int) * (y : Int)) = ((x * y % 18446744073709551616 : Nat) : Int) := by
  obtain ⟨h1, h2, h3, h4⟩ := Lib.mul64_hi x y hx hy
  have ha := Lib.half_mul_le (a := x / 4294967296) (b := y / 4294967296) (by omega) (by omega)
  have hb := Lib.half_mul_le (a := x / 4294967296) (b := y % 4294967296) (by omega) (by omega)
  have hc := Lib.half_mul_le (a := x % 4294967296) (b := y / 4294967296) (by omega) (by omega)
  have hd := Lib.half_mul_le (a := x % 4294967296) (b := y % 4294967296) (by omega) (by omega)
  have e1 : (x : Int) / 4294967296 * ((y : Int) / 4294967296) = ((x / 4294967296 * (y / 4294967296) : Nat) : Int) := by simp
  have e2 : (x : Int) / 4294967296 * ((y : Int) % 4294967296) = ((x / 4294967296 * (y % 4294967296) : Nat) : Int) := by simp
  have e3 : (x : Int) % 4294967296 * ((y : Int) / 4294967296) = ((x % 4294967296 * (y / 4294967296) : Nat) : Int) := by simp
  have e4 : (x : Int) % 4294967296 * ((y : Int) % 4294967296) = ((x % 4294967296 * (y % 4294967296) : Nat) : Int) := by simp
  have e5 : (x : Int) * (y : Int) = ((x * y : Nat) : Int) := by simp
  rw [e1, e2, e3, e4, e5]
  generalize x / 4294967296 * (y / 4294967296) = a at *
  generalize x / 4294967296 * (y % 4294967296) = b at *
  generalize x % 4294967296 * (y / 4294967296) = c at *
  generalize x % 4294967296 * (y % 4294967296) = d at *
  generalize x * y = m at *
  have wr : ∀ n : Nat, n < 18446744073709551616 → IntKind.u64.wrap (n : Int) = (n : Int) := fun n h => by rw [IntKind.wrap_u64]; omega
  have f1 : (b : Int) + (d : Int) / 4294967296 = ((b + d / 4294967296 : Nat) : Int) := by simp
  have f2 : ((((b + d / 4294967296 : Nat) : Int) % 4294967296 + (c : Int))) = (((b + d / 4294967296) % 4294967296 + c : Nat) : Int) := by simp
  rw [wr a (by omega), wr b (by omega), wr c (by omega), wr d (by omega), f1, wr _ h2, show (4294967295 : Int) = 2 ^ 32 - 1 by decide, and_mask 32 (by decide) (by omega) (by omega), show (2 : Int) ^ 32 = 4294967296 by decide, f2, wr _ h3]
  simp only [IntKind.wrap_u64]
  constructor <;> omega
end Go.Plumb
namespace Go.Proofs.YtjlaadadbpffdaaGreatDoor
open Go.RowKit Go.Plumb

set_option maxHeartbeats 1000000 in
theorem mul64_any (x y : Nat) (w : World) (hx : x < 18446744073709551616) (hy : y < 18446744073709551616) :
    Calls Tryz.prog 172 #[.int .u64 (x : Int), .int .u64 (y : Int)] w fun e w' => e = .returned (.tuple #[.int .u64 ((x * y / 18446744073709551616 : Nat) : Int), .int .u64 ((x * y % 18446744073709551616 : Nat) : Int)]) ∧ w = w' := by
  have m1 : bits .and .u64 (x : Int) 4294967295 = (x : Int) % 4294967296 := and_mask 32 (by decide) (by omega) (by omega)
  have m2 : bits .and .u64 (y : Int) 4294967295 = (y : Int) % 4294967296 := and_mask 32 (by decide) (by omega) (by omega)
  have hx0 : (0 : Int) ≤ (x : Int) := by omega
  have hy0 : (0 : Int) ≤ (y : Int) := by omega
  go_enter Tryz.func172, Tryz.ntmps172
  go_wp2_with fail
  go_ret2
  obtain ⟨p1, p2⟩ := mul64_plain x y hx hy
  exact ⟨by rw [p1, p2]; rfl, rfl⟩

/-- What holds at the head of each round of mul. -/
structure MulRel (w : World) (B g k cap : Nat) (la lo : List Nat) (n i : Nat) (os : List Nat) (cy : Nat) (wr : World) : Prop where
  len : os.length = i
  limbs : Limbs os
  val : valL os + 18446744073709551616 ^ i * cy = valL ((lo.drop k).take i) + valL (la.take i) * n
  own : OwnL wr B (.slice (some ⟨g, 0, none⟩) lo.length cap) (patch lo k os)
  grown : w.grownBy wr (some g)
theorem patch_at (lo os : List Nat) (k : Nat) (h : k + os.length ≤ lo.length) : (patch lo k os)[k + os.length]? = lo[k + os.length]? := by
  unfold patch
  rw [List.append_assoc, List.getElem?_append_right (by simp; omega), List.length_take, Nat.min_eq_left (by omega), Nat.add_sub_cancel_left, List.getElem?_append_right (Nat.le_refl _), Nat.sub_self, List.getElem?_drop, Nat.add_zero]
theorem patch_set (lo os : List Nat) (k x : Nat) (h : k + os.length < lo.length) : (patch lo k os).set (k + os.length) x = patch lo k (os ++ [x]) := by
  unfold patch
  have e : (lo.take k).length = k := by simp; omega
  rw [List.append_assoc, List.set_append_right _ _ (by rw [e]; omega), e, Nat.add_sub_cancel_left, List.set_append_right _ _ (Nat.le_refl _), Nat.sub_self, List.drop_eq_getElem_cons h, List.set_cons_zero]
  simp [Nat.add_assoc]
theorem patch_nil (lo : List Nat) (k : Nat) : patch lo k [] = lo := by simp [patch]
theorem grownBy_setCell {w wr : World} {g : Nat} (h : w.grownBy wr (some g)) (j : Nat) (v : Value) : w.grownBy (wr.setCell ⟨g, j, none⟩ v) (some g) :=
  ⟨h.os, h.tape, h.output, by rw [World.size_setCell]; exact h.size, fun k hk hne => (Below.heap_setCell wr ⟨g, j, none⟩ v k (fun e => hne (by rw [e]))).trans (h.block k hk hne)⟩
theorem grownBy_refl (w : World) (r : Option Nat) : w.grownBy w r := ⟨rfl, rfl, rfl, Nat.le_refl _, fun _ _ _ => rfl⟩
theorem MulRel.step {w : World} {B g k cap : Nat} {la lo : List Nat} {n i : Nat} {os : List Nat} {cy : Nat} {wr : World} (h : MulRel w B g k cap la lo n i os cy wr) (hk : k + la.length ≤ lo.length) (hi : i < la.length) (x o o2 cy2 j : Nat) (hx : la.getD i 0 = x) (ho : lo.getD (k + i) 0 = o)
    (hs : o2 + 18446744073709551616 * cy2 = x * n + cy + o) (hl : o2 < 18446744073709551616) (v : Int) (hv : v = (o2 : Int)) (hj : j = k + i) : MulRel w B g k cap la lo n (i + 1) (os ++ [o2]) cy2 (wr.setCell ⟨g, j, none⟩ (.int .u64 v)) := by
  subst hj
  obtain ⟨hos, hlo, hval, hown, hg⟩ := h
  refine ⟨by simp [hos], hlo.append (Limbs.cons hl Limbs.nil), muls_step la (lo.drop k) os n i cy x o o2 cy2 hos hval hx (by rw [getD_drop]; exact ho) hs, ?_, grownBy_setCell hg _ _⟩
  have := OwnL.store hown (k + i) _ v hv
  rw [← hos, patch_set lo os k _ (by omega)] at this
  rw [← hos]
  exact this
theorem Arr.grown {w w' : World} {a : Option Addr} {c : Nat} {l : List Nat} {g : Nat} (h : Arr w a c l) (hg : w.grownBy w' (some g)) (hne : ∀ b off, a = some ⟨b, off, none⟩ → 0 < l.length → b ≠ g) : Arr w' a c l := by
  obtain ⟨h1, h2, h3, h4⟩ := h
  refine ⟨h1, h2, h3, fun j hj => ?_⟩
  obtain ⟨b, off, ha, hc⟩ := h4 j hj
  exact ⟨b, off, ha, hg.cell hc (by simpa using hne b off ha (by omega))⟩

theorem mul_facts (x n cy o : Nat) (hxl : x < 18446744073709551616) (hnl : n < 18446744073709551616) (hcy : cy < 18446744073709551616) (hol : o < 18446744073709551616) (hPb : x * n ≤ 18446744073709551615 * 18446744073709551615) :
    ∃ h l l2 c o2 c2 : Nat, (∀ w, Calls Tryz.prog 172 #[.int .u64 (x : Int), .int .u64 (n : Int)] w fun e w' => e = .returned (.tuple #[.int .u64 (h : Int), .int .u64 (l : Int)]) ∧ w = w') ∧
      (∀ w, Sem.run Tryz.prog (callFunc 158 #[.int .u64 (l : Int), .int .u64 (cy : Int), .int .u64 0]) w = .ok (.value (.tuple #[.int .u64 (l2 : Int), .int .u64 (c : Int)])) w) ∧
      (∀ w, Sem.run Tryz.prog (callFunc 158 #[.int .u64 (o : Int), .int .u64 (l2 : Int), .int .u64 0]) w = .ok (.value (.tuple #[.int .u64 (o2 : Int), .int .u64 (c2 : Int)])) w) ∧
      h + c < 18446744073709551616 ∧ h + c + c2 < 18446744073709551616 ∧ o2 + 18446744073709551616 * (h + c + c2) = x * n + cy + o ∧ o2 < 18446744073709551616 := by
  have hM := fun w' => mul64_any x n w' hxl hnl
  generalize x * n = P at *
  refine ⟨P / 18446744073709551616, P % 18446744073709551616, (P % 18446744073709551616 + cy) % 18446744073709551616, (P % 18446744073709551616 + cy) / 18446744073709551616,
    (o + (P % 18446744073709551616 + cy) % 18446744073709551616) % 18446744073709551616, (o + (P % 18446744073709551616 + cy) % 18446744073709551616) / 18446744073709551616, hM, fun w => ?_, fun w => ?_, by omega, by omega, by omega, by omega⟩
  · rw [run_add _ _ _ (by omega) (by omega) (by decide) (by decide)]; simp
  · rw [run_add _ _ _ (by omega) (by omega) (by decide) (by decide)]; simp

set_option maxHeartbeats 4000000 in
theorem mul_any (B g k no co cap : Nat) (a : Option Addr) (c n : Nat) (la lo : List Nat) (w : World) (hA : Arr w a c la) (hO : OwnL w B (.slice (some ⟨g, 0, none⟩) lo.length cap) lo) (hne : ∀ b off, a = some ⟨b, off, none⟩ → 0 < la.length → b ≠ g) (hk : k + la.length ≤ lo.length) (hno : la.length ≤ no) (hll : Limbs lo) (hbig : lo.length ≤ 1000000) (hnl : n < 18446744073709551616) :
    Calls Tryz.prog 159 #[.slice (some ⟨g, k, none⟩) no co, .slice a la.length c, .int .u64 (n : Int)] w fun e w' => ∃ (os : List Nat) (cy : Nat), e = .returned (.int .u64 (cy : Int)) ∧ cy < 18446744073709551616 ∧ os.length = la.length ∧ Limbs os ∧
      valL os + 18446744073709551616 ^ la.length * cy = valL ((lo.drop k).take la.length) + valL la * n ∧ OwnL w' B (.slice (some ⟨g, 0, none⟩) lo.length cap) (patch lo k os) ∧ w.grownBy w' (some g) := by
  have HA : Hid (∀ wr, w.grownBy wr (some g) → Arr wr a c la) := Lib.hid fun wr h => Arr.grown hA h hne
  obtain ⟨n1, hn1⟩ : ∃ n1, la.length = n1 := ⟨_, rfl⟩
  have Hn1 := Lib.hid hn1
  have HO := Lib.hid hO
  have Hk := Lib.hid hk
  have Hll := Lib.hid hll
  rw [hn1] at hk hno
  rw [hn1]
  have hnb : n1 ≤ 1000000 := by omega
  clear hA hO hne hn1 hll
  go_enter Tryz.func159, Tryz.ntmps159
  go_wp2_with fail
  go_loopw [7, 14] (fun u v wr => ∃ (i : Nat) (os : List Nat) (cy : Nat), i ≤ n1 ∧ v = .int .i64 (i : Int) ∧ u = .int .u64 (cy : Int) ∧ cy < 18446744073709551616 ∧ Hid (MulRel w B g k cap la lo n i os cy wr)) (fun _ v _ => n1 - (intOf v).toNat)
  case atStart => exact ⟨0, [], 0, Nat.zero_le _, rfl, rfl, by omega, Lib.hid ⟨rfl, Limbs.nil, by simp [valL], by rw [patch_nil]; exact HO.out, grownBy_refl _ _⟩⟩
  case round =>
    obtain ⟨i, os, cy, hi, rfl, rfl, hcy, hR⟩ := hrel
    by_cases hlt : i < n1
    · obtain ⟨b1, o1, ea, hc1⟩ := (HA.out wr hR.out.grown).2.2.2 i (by have := Hn1.out; omega)
      obtain ⟨x, hx⟩ : ∃ x, la.getD i 0 = x := ⟨_, rfl⟩
      obtain ⟨o, ho⟩ : ∃ x, lo.getD (k + i) 0 = x := ⟨_, rfl⟩
      have hxl : x < 18446744073709551616 := by rw [← hx]; exact (HA.out wr hR.out.grown).2.2.1.get i
      have hol : o < 18446744073709551616 := by rw [← ho]; exact Hll.out.get _
      have HX := Lib.hid hx
      have HY := Lib.hid ho
      rw [hx] at hc1
      have hco : wr.cell? ⟨g, k + i, none⟩ = some (.int .u64 (o : Int)) := by
        refine OwnL.cell hR.out.own (k + i) o ?_
        have h1 := hR.out.len
        have h2 := Hn1.out
        have h3 := Hk.out
        rw [← h1, patch_at lo os k (by omega), h1, List.getElem?_eq_getElem (by omega), ← HY.out]
        simp [List.getD, show k + i < lo.length by omega]
      have hfo := OwnL.thaw hR.out.own (k + i)
      subst ea
      have hPb := Nat.mul_le_mul (show x ≤ 18446744073709551615 by omega) (show n ≤ 18446744073709551615 by omega)
      obtain ⟨h, l, l2, c', o2, c2, hM, hadd1, hadd2, hb1, hb2, hlimb, ho2⟩ := mul_facts x n cy o hxl hnl hcy hol hPb
      have HLM := Lib.hid hlimb
      clear hx ho hPb hlimb
      go_wp2_with (go_at_call 172; (with_reducible refine (hM _).mono ?_); rintro e w' ⟨rfl, rfl⟩)
      go_roundw
      case rel => exact ⟨i + 1, os ++ [o2], h + c' + c2, by omega, by go_num, by go_num, by omega, Lib.hid (MulRel.step hR.out Hk.out (by have := Hn1.out; omega) x o o2 (h + c' + c2) (k + i) HX.out HY.out HLM.out ho2 _ rfl rfl)⟩
      case measure => simp [intOf]; omega
    · obtain rfl : i = n1 := by omega
      go_wp2_with fail
      go_ret
      have hv := hR.out.val
      have hl := hR.out.len
      rw [show la.take i = la by rw [← Hn1.out, List.take_length]] at hv
      exact ⟨os, cy, rfl, hcy, hl, hR.out.limbs, hv, hR.out.own, hR.out.grown⟩
end Go.Proofs.YtjlaadadbpffdaaGreatDoor

namespace Go.Plumb
theorem getD_patch (lo os : List Nat) (k j : Nat) (h : k + os.length ≤ lo.length) (hj : k + os.length ≤ j) : (patch lo k os).getD j 0 = lo.getD j 0 := by
  unfold patch List.getD
  rw [List.append_assoc, List.getElem?_append_right (by simp; omega), List.length_take, Nat.min_eq_left (by omega), List.getElem?_append_right (by omega), List.getElem?_drop]
  congr 2
  omega
theorem muls_round (la lb lo os : List Nat) (k n1 n2 cy y : Nat) (h1 : la.length = n1) (hlo : lo.length = n1 + n2) (hk : k < n2) (hz : ∀ j, k + n1 ≤ j → lo.getD j 0 = 0) (hv : valL lo = valL la * valL (lb.take k)) (hos : os.length = n1)
    (he : valL os + 18446744073709551616 ^ n1 * cy = valL ((lo.drop k).take n1) + valL la * y) (hy : lb.getD k 0 = y) :
    valL ((patch lo k os).set (k + n1) cy) = valL la * valL (lb.take (k + 1)) ∧ (∀ j, k + 1 + n1 ≤ j → ((patch lo k os).set (k + n1) cy).getD j 0 = 0) ∧ ((patch lo k os).set (k + n1) cy).length = n1 + n2 := by
  have hpl : (patch lo k os).length = n1 + n2 := by rw [patch_length _ _ _ (by omega)]; exact hlo
  refine ⟨?_, fun j hj => ?_, by rw [List.length_set]; exact hpl⟩
  · have s1 := valL_set (patch lo k os) (k + n1) cy (by omega)
    have s2 := patch_value lo k os (by omega)
    rw [getD_patch lo os k (k + n1) (by omega) (by omega), hz (k + n1) (Nat.le_refl _), Nat.mul_zero, Nat.add_zero] at s1
    rw [hos] at s2
    rw [valL_take_any lb k, hy, Nat.mul_add, ← hv, s1, Nat.pow_add, Nat.mul_assoc]
    have e3 := congrArg (18446744073709551616 ^ k * ·) he
    simp only [Nat.mul_add] at e3
    have e4 : valL la * (18446744073709551616 ^ k * y) = 18446744073709551616 ^ k * (valL la * y) := by rw [← Nat.mul_assoc, Nat.mul_comm (valL la), Nat.mul_assoc]
    rw [e4]
    omega
  · unfold List.getD
    rw [List.getElem?_set_ne (by omega)]
    have := getD_patch lo os k j (by omega) (by omega)
    unfold List.getD at this
    rw [this]
    exact hz j (by omega)
theorem length_prod (A B : Nat) (hA : A ≠ 0) (hB : B ≠ 0) : (limbs A).length + (limbs B).length ≤ (limbs (A * B)).length + 1 := by
  apply Nat.le_of_not_lt
  intro h
  have h1 := pow_le_of_length A hA
  have h2 := pow_le_of_length B hB
  have h3 := Nat.mul_le_mul h1 h2
  rw [← Nat.pow_add] at h3
  have h4 := lt_pow_length (A * B)
  have pA : 0 < (limbs A).length := List.length_pos_iff.2 fun e => hA ((limbs_nil_iff A).1 e)
  have pB : 0 < (limbs B).length := List.length_pos_iff.2 fun e => hB ((limbs_nil_iff B).1 e)
  have h5 := Nat.pow_le_pow_right (show 0 < 18446744073709551616 by decide) (show (limbs (A * B)).length ≤ (limbs A).length - 1 + ((limbs B).length - 1) by omega)
  omega
theorem length_prod_le (A B : Nat) : (limbs (A * B)).length ≤ (limbs A).length + (limbs B).length := by
  apply length_limbs_le
  rw [Nat.pow_add]
  exact Nat.mul_lt_mul_of_lt_of_lt (lt_pow_length A) (lt_pow_length B)
end Go.Plumb
namespace Go.Proofs.YtjlaadadbpffdaaGreatDoor
open Go.RowKit Go.Plumb

theorem run_make2 (n m : Nat) (h1 : n + m ≤ 100000) (w : World) :
    Sem.run Tryz.prog ((Instr.makeSlice 22 (.int .i64 ((n : Int) + m)) (.int .i64 ((n : Int) + m)))) w = .ok (.slice (some ⟨w.heap.size, 0, none⟩) (n + m) (n + m)) (w.alloc (.cells (zerosA (n + m)) 31)) := by
  have := run_makeI ((n : Int) + m) (by omega) (by omega) w
  rw [show ((n : Int) + m).toNat = n + m by omega] at this
  exact this
/-- What holds at the head of each round of Mul. -/
structure MulsRel (w : World) (a b : Option Addr) (n1 n2 c d : Nat) (la lb : List Nat) (k : Nat) (lo : List Nat) (wr : World) : Prop where
  len : lo.length = n1 + n2
  limbs : Limbs lo
  val : valL lo = valL la * valL (lb.take k)
  zeros : ∀ j, k + n1 ≤ j → lo.getD j 0 = 0
  k3 : wr.cell? ⟨w.heap.size, 0, none⟩ = some (.slice a n1 c)
  k4 : wr.cell? ⟨w.heap.size + 1, 0, none⟩ = some (.slice b n2 d)
  own : OwnL wr w.heap.size (.slice (some ⟨w.heap.size + 3, 0, none⟩) (n1 + n2) (n1 + n2)) lo
  below : Below w.heap.size w wr
theorem MulsRel.step {w : World} {a b : Option Addr} {n1 n2 c d : Nat} {la lb : List Nat} {k : Nat} {lo : List Nat} {wr : World} (h : MulsRel w a b n1 n2 c d la lb k lo wr) (h1 : la.length = n1) (hk : k < n2) {os : List Nat} {cy y j : Nat} {w1 : World}
    (hcy : cy < 18446744073709551616) (hos : os.length = n1) (hlo : Limbs os) (he : valL os + 18446744073709551616 ^ n1 * cy = valL ((lo.drop k).take n1) + valL la * y) (hy : lb.getD k 0 = y)
    (ho : OwnL w1 w.heap.size (.slice (some ⟨w.heap.size + 3, 0, none⟩) (n1 + n2) (n1 + n2)) (patch lo k os)) (hg : wr.grownBy w1 (some (w.heap.size + 3))) (v : Int) (hv : v = (cy : Int)) (hj : j = k + n1) :
    MulsRel w a b n1 n2 c d la lb (k + 1) ((patch lo k os).set (k + n1) cy) (w1.setCell ⟨w.heap.size + 3, j, none⟩ (.int .u64 v)) := by
  subst hj
  obtain ⟨hlen, hl, hval, hz, k3, k4, hown, hB⟩ := h
  obtain ⟨r1, r2, r3⟩ := muls_round la lb lo os k n1 n2 cy y h1 hlen hk hz hval hos he hy
  have hB1 : Below w.heap.size w w1 := hB.grown hg hB.size (fun q e => by cases e; omega)
  refine ⟨r3, (patch_limbs hl hlo k).set _ _ hcy, r1, r2, ?_, ?_, OwnL.store ho (k + n1) cy v hv, hB1.setCell (by simp) _⟩
  · exact (World.cell?_setCell_other _ _ _ _ (by simp)).trans (hg.cell k3 (by simp))
  · exact (World.cell?_setCell_other _ _ _ _ (by simp)).trans (hg.cell k4 (by simp))

theorem MulsRel.mid {w : World} {a b : Option Addr} {n1 n2 c d : Nat} {la lb : List Nat} {k : Nat} {lo : List Nat} {wr : World} (h : MulsRel w a b n1 n2 c d la lb k lo wr) (hk : k < n2) {os : List Nat} {w1 : World} (hos : os.length = n1)
    (ho : OwnL w1 w.heap.size (.slice (some ⟨w.heap.size + 3, 0, none⟩) (n1 + n2) (n1 + n2)) (patch lo k os)) : w1.cell? ⟨w.heap.size + 3, k + n1, none⟩ = some (.int .u64 0) := by
  have hlen := h.len
  refine OwnL.cell ho (k + n1) 0 ?_
  rw [← hos, patch_at lo os k (by omega), hos, List.getElem?_eq_getElem (by omega)]
  have := h.zeros (k + n1) (Nat.le_refl _)
  simpa [List.getD, show k + n1 < lo.length by omega] using this
theorem MulsRel.drew {w : World} {a b : Option Addr} {n1 n2 c d : Nat} {la lb : List Nat} {k : Nat} {lo : List Nat} {wr : World} (h : MulsRel w a b n1 n2 c d la lb k lo wr) : MulsRel w a b n1 n2 c d la lb k lo wr.drew :=
  ⟨h.len, h.limbs, h.val, h.zeros, h.k3, h.k4, World.ownsRow.drew h.own, h.below.drew⟩

set_option maxHeartbeats 4000000 in
theorem muls_walk (a b : Option Addr) (c d : Nat) (l m : List Nat) (w : World) (hA : Arr w a c l) (hB : Arr w b d m) (hl : (limbs (valL l)).length ≤ 4096) (hm : (limbs (valL m)).length ≤ 4096) (hfit : (limbs (valL l)).length + (limbs (valL m)).length ≤ 4097 ∨ (limbs (valL l)).length = 0 ∨ (limbs (valL m)).length = 0) :
    Calls Tryz.prog 115 #[.slice a l.length c, .slice b m.length d] w fun e w' => ∃ a' c', e = .returned (.tuple #[doneS a' (limbs (valL l * valL m)).length c', .int .i64 (doneE (limbs (valL l * valL m)).length)]) ∧ Arr w' a' c' (limbs (valL l * valL m)) ∧ Below w.heap.size w w' := by
  have hO := open2_in a b c d l m w hA hB hl hm
  obtain ⟨w2, hw2⟩ : ∃ w2, ((w.alloc (.cells #[.slice a (limbs (valL l)).length c] 22)).alloc (.cells #[.slice b (limbs (valL m)).length d] 22)).alloc (.cells #[.pointer (some ⟨w.heap.size, 0, none⟩), .pointer (some ⟨w.heap.size + 1, 0, none⟩)] 135) = w2 := ⟨_, rfl⟩
  have hB2 : Below w.heap.size w w2 := by rw [← hw2]; (repeat' (first | exact Below.refl _ _ | assumption | (refine below_alloc ?_ _) | (refine Below.setCell ?_ ?_ _) | (refine Below.drew ?_) | (refine below_drewN ?_ _))) <;> (first | (simp; done) | (simp; omega) | omega)
  have hsz : w2.heap.size = w.heap.size + 3 := by rw [← hw2]; simp
  have hAn := hA.norm
  have hBn := hB.norm
  rw [hw2] at hO
  obtain ⟨la, hla⟩ : ∃ la, limbs (valL l) = la := ⟨_, rfl⟩
  obtain ⟨lb, hlb⟩ : ∃ lb, limbs (valL m) = lb := ⟨_, rfl⟩
  rw [hla] at hl hfit hAn
  rw [hlb] at hm hfit hBn
  obtain ⟨n1, hn1⟩ : ∃ n1, la.length = n1 := ⟨_, rfl⟩
  obtain ⟨n2, hn2⟩ : ∃ n2, lb.length = n2 := ⟨_, rfl⟩
  rw [hn1] at hl hfit
  rw [hn2] at hm hfit
  have c1 : w2.cell? ⟨w.heap.size, 0, none⟩ = some (.slice a n1 c) := by rw [← hw2, hla, hn1]; simp [go_sem]
  have c2 : w2.cell? ⟨w.heap.size + 1, 0, none⟩ = some (.slice b n2 d) := by rw [← hw2, hlb, hn2]; simp [go_sem]
  have hmk := run_make2 n1 n2 (by omega)
  clear hw2
  have hN1 : valL la = valL l := by rw [← hla, valL_limbs]
  have hN2 : valL lb = valL m := by rw [← hlb, valL_limbs]
  have HPA : Hid (∀ wr, Below w.heap.size w wr → Arr wr a c la) := Lib.hid fun wr h => hAn.below h
  have HPB : Hid (∀ wr, Below w.heap.size w wr → Arr wr b d lb) := Lib.hid fun wr h => hBn.below h
  have HPa : Hid (∀ q off, a = some ⟨q, off, none⟩ → 0 < la.length → q < w.heap.size) := Lib.hid fun q off e h0 => by
    obtain ⟨q', off', e', hc⟩ := hAn.2.2.2 0 h0
    rw [e] at e'; cases e'
    exact cell_lt hc
  have HPb : Hid (∀ q off, b = some ⟨q, off, none⟩ → 0 < lb.length → q < w.heap.size) := Lib.hid fun q off e h0 => by
    obtain ⟨q', off', e', hc⟩ := hBn.2.2.2 0 h0
    rw [e] at e'; cases e'
    exact cell_lt hc
  have HB2 := Lib.hid hB2
  have HN1 := Lib.hid hN1
  have HN2 := Lib.hid hN2
  have Hn1 := Lib.hid hn1
  have Hn2 := Lib.hid hn2
  have hcase : n1 + n2 ≤ 4097 := by omega
  clear hAn hBn hA hB hB2 hN1 hN2 hn1 hn2 hla hlb hfit
  go_enter Tryz.func115, Tryz.ntmps115
  go_wp2_with fail
  refine hO.mono ?_
  rintro e w' ⟨rfl, rfl⟩
  clear hO
  go_wp2_with fail
  go_loopw [38] (fun v wr => ∃ (k : Nat) (lo : List Nat), k ≤ n2 ∧ v = .int .i64 (k : Int) ∧ Hid (MulsRel w a b n1 n2 c d la lb k lo wr)) (fun v _ => n2 - (intOf v).toNat)
  case atStart =>
    have ho := owns_zeros w2 w.heap.size (n1 + n2) (by omega) (by omega)
    rw [hsz] at ho
    refine ⟨0, List.replicate (n1 + n2) 0, Nat.zero_le _, rfl, Lib.hid ⟨by simp, Limbs.replicate _, by rw [valL_replicate]; simp [valL], fun j _ => by simp [List.getD, List.getElem?_replicate]; split <;> rfl, Lib.cell?_alloc_some _ c1, Lib.cell?_alloc_some _ c2, ?_, HB2.out.alloc (by omega) _⟩⟩
    unfold OwnL
    rw [List.length_replicate]
    exact ho
  case round =>
    obtain ⟨k, lo, hk, rfl, hR⟩ := hrel
    have k3 := hR.out.k3
    have k4 := hR.out.k4
    by_cases hlt : k < n2
    · obtain ⟨b2, o2, eb, hc2⟩ := (HPB.out wr hR.out.below).2.2.2 k (by have := Hn2.out; omega)
      obtain ⟨y, hy⟩ : ∃ y, lb.getD k 0 = y := ⟨_, rfl⟩
      have hyl : y < 18446744073709551616 := by rw [← hy]; exact (HPB.out wr hR.out.below).2.2.1.get k
      have HY := Lib.hid hy
      rw [hy] at hc2
      have hRd := MulsRel.drew hR.out
      have a0 := hRd.k3
      have a1 := hRd.k4
      rw [eb] at a1
      have a2 : wr.drew.cell? ⟨b2, o2 + k, none⟩ = some (.int .u64 (y : Int)) := hc2
      have hne2 : b2 ≠ w.heap.size + 3 := by have := HPb.out _ _ eb (by have := Hn2.out; omega); omega
      have hM := mul_any w.heap.size (w.heap.size + 3) k (n1 + n2 - k) (n1 + n2 - k) (n1 + n2) a c y la lo wr.drew (HPA.out wr.drew hRd.below) (by rw [hR.out.len]; exact hRd.own) (fun q off e h0 => by have := HPa.out q off e h0; omega) (by have := hR.out.len; have := Hn1.out; omega) (by have := Hn1.out; omega) hR.out.limbs (by have := hR.out.len; omega) hyl
      rw [Hn1.out, hR.out.len] at hM
      have HRd := Lib.hid hRd
      have z1 : (0 : Int) ≤ (k : Int) := by omega
      have z2 : (k : Int) ≤ (n1 : Int) + (n2 : Int) := by omega
      have z3 : (k : Int) + (n1 : Int) < (n1 : Int) + (n2 : Int) := by omega
      have z4 : (0 : Int) ≤ (k : Int) + (n1 : Int) := by omega
      have z5 : (k : Int) < (n2 : Int) := by omega
      have z6 : ¬ (n1 + n2 = k) := by omega
      have z8 : ((k : Int) + (n1 : Int)).toNat = k + n1 := by omega
      have z7 : IntKind.i64.wrap ((k : Int) + (n1 : Int)) = (k : Int) + (n1 : Int) := IntWalk.i64_in _ ⟨by omega, by omega⟩
      clear hy hRd eb k3 k4
      go_wp2_with fail
      go_region_held3 (fun w' => w'.cell? ⟨w.heap.size, 0, none⟩ = some (.slice a n1 c) ∧ w'.cell? ⟨w.heap.size + 1, 0, none⟩ = some (.slice (some ⟨b2, o2, none⟩) n2 d) ∧ w'.cell? ⟨b2, o2 + k, none⟩ = some (.int .u64 (y : Int))) (first | exact ⟨a0, a1, a2⟩ | exact ⟨d0, d1, d2⟩ | exact ⟨(World.cell?_setCell_other _ _ _ _ (by simp)).trans d0, (World.cell?_setCell_other _ _ _ _ (by simp)).trans d1, (World.cell?_setCell_other _ _ _ _ (by first | (simp; done) | (simpa using hne2))).trans d2⟩ | go_keep) ((first | (go_at_call 159; (with_reducible refine hM.mono ?_); rintro e w' ⟨os, cy, rfl, hcy, hos, hlo, he, ho, hg⟩; have d0 := hg.cell a0 (by simp); have d1 := hg.cell a1 (by simp); have d2 := hg.cell a2 (by simpa using hne2); have hfo := OwnL.thaw ho (k + n1); have hco := MulsRel.mid HRd.out hlt hos ho; have HE := Lib.hid he; have HO := Lib.hid ho; have HG := Lib.hid hg; have Hos := Lib.hid hos; have Hlo := Lib.hid hlo; clear a0 a1 a2 he ho hg hos hlo hM)))
      all_goals go_wp2_with fail
      all_goals go_roundw
      case rel => exact ⟨k + 1, _, by omega, by go_num, Lib.hid (MulsRel.step HRd.out Hn1.out hlt (by assumption) (by assumption : Hid _).out (by assumption : Hid _).out (by assumption : Hid _).out HY.out (by assumption : Hid _).out (by assumption : Hid _).out _ rfl rfl)⟩
      case measure => simp [intOf]; omega
    · obtain rfl : k = n2 := by omega
      obtain ⟨a', c', e2, harr⟩ := OwnL.arr (by have := hR.out.own; rw [← hR.out.len] at this; exact this) hR.out.limbs
      simp only [Value.slice.injEq] at e2
      obtain ⟨rfl, e3, rfl⟩ := e2
      clear e3
      have hD := done_both _ _ _ _ harr
      have hv := hR.out.val
      rw [show lb.take k = lb by rw [← Hn2.out, List.take_length], HN1.out, HN2.out] at hv
      rw [hR.out.len, hv] at hD
      have hn := harr.norm
      rw [hv, hR.out.len] at hn
      have HHn := Lib.hid hn
      clear hn hv harr
      go_wp2_with (go_at_call 136; (with_reducible refine hD.mono ?_); rintro e w' ⟨rfl, rfl⟩)
      go_ret2
      exact ⟨_, _, rfl, HHn.out, hR.out.below⟩
set_option maxHeartbeats 1000000 in
theorem muls_long (a b : Option Addr) (c d : Nat) (l m : List Nat) (w : World) (hA : Arr w a c l) (hB : Arr w b d m) (hl : (limbs (valL l)).length ≤ 4096) (hm : (limbs (valL m)).length ≤ 4096) (hfit : 4097 < (limbs (valL l)).length + (limbs (valL m)).length) (h1 : (limbs (valL l)).length ≠ 0) (h2 : (limbs (valL m)).length ≠ 0) :
    Calls Tryz.prog 115 #[.slice a l.length c, .slice b m.length d] w fun e w' => e = .returned (.tuple #[.slice none 0 0, .int .i64 3]) ∧ Below w.heap.size w w' := by
  have hO := open2_in a b c d l m w hA hB hl hm
  obtain ⟨w2, hw2⟩ : ∃ w2, ((w.alloc (.cells #[.slice a (limbs (valL l)).length c] 22)).alloc (.cells #[.slice b (limbs (valL m)).length d] 22)).alloc (.cells #[.pointer (some ⟨w.heap.size, 0, none⟩), .pointer (some ⟨w.heap.size + 1, 0, none⟩)] 135) = w2 := ⟨_, rfl⟩
  have hB2 : Below w.heap.size w w2 := by rw [← hw2]; (repeat' (first | exact Below.refl _ _ | assumption | (refine below_alloc ?_ _) | (refine Below.setCell ?_ ?_ _) | (refine Below.drew ?_) | (refine below_drewN ?_ _))) <;> (first | (simp; done) | (simp; omega) | omega)
  rw [hw2] at hO
  obtain ⟨n1, hn1⟩ : ∃ n1, (limbs (valL l)).length = n1 := ⟨_, rfl⟩
  obtain ⟨n2, hn2⟩ : ∃ n2, (limbs (valL m)).length = n2 := ⟨_, rfl⟩
  have c1 : w2.cell? ⟨w.heap.size, 0, none⟩ = some (.slice a n1 c) := by rw [← hw2, hn1]; simp [go_sem]
  have c2 : w2.cell? ⟨w.heap.size + 1, 0, none⟩ = some (.slice b n2 d) := by rw [← hw2, hn2]; simp [go_sem]
  rw [hn1] at hl hfit h1
  rw [hn2] at hm hfit h2
  have z1 : 0 < n1 := by omega
  have z2 : 0 < n2 := by omega
  have HB2 := Lib.hid hB2
  clear hw2 hn1 hn2 hA hB hB2 h1 h2
  go_enter Tryz.func115, Tryz.ntmps115
  go_wp2_with fail
  refine hO.mono ?_
  rintro e w' ⟨rfl, rfl⟩
  clear hO
  go_wp2_with fail
  go_ret2
  exact ⟨rfl, HB2.out⟩
theorem doneS_long {a : Option Addr} {n c : Nat} (h : 4096 < n) : doneS a n c = .slice none 0 0 := by unfold doneS; rw [if_neg (by omega)]
theorem doneE_long {n : Nat} (h : 4096 < n) : doneE n = 3 := by unfold doneE; rw [if_neg (by omega)]
theorem doneS_ok {a : Option Addr} {n c : Nat} (h : n ≤ 4096) : doneS a n c = .slice a n c := by unfold doneS; rw [if_pos h]
theorem doneE_ok {n : Nat} (h : n ≤ 4096) : doneE n = 0 := by unfold doneE; rw [if_pos h]
/-- What nat.done hands back shows: the number, where it may be. -/
def Done (w : World) (v e : Value) (N : Nat) : Prop := ((limbs N).length ≤ 4096 → e = .int .i64 0 ∧ ∃ a c, v = .slice a (limbs N).length c ∧ Arr w a c (limbs N)) ∧ (4096 < (limbs N).length → e = .int .i64 3 ∧ v = .slice none 0 0)
theorem Done.of {w : World} {a : Option Addr} {c N : Nat} (h : Arr w a c (limbs N)) : Done w (doneS a (limbs N).length c) (.int .i64 (doneE (limbs N).length)) N :=
  ⟨fun hl => ⟨by rw [doneE_ok hl], a, c, doneS_ok hl, h⟩, fun hl => ⟨by rw [doneE_long hl], doneS_long hl⟩⟩
/-- nat.Mul at every two numbers that may be. -/
theorem Mul_any (a b : Option Addr) (c d : Nat) (l m : List Nat) (w : World) (hA : Arr w a c l) (hB : Arr w b d m) (hl : (limbs (valL l)).length ≤ 4096) (hm : (limbs (valL m)).length ≤ 4096) :
    Calls Tryz.prog 115 #[.slice a l.length c, .slice b m.length d] w fun e w' => ∃ v x, e = .returned (.tuple #[v, x]) ∧ Done w' v x (valL l * valL m) ∧ Below w.heap.size w w' := by
  by_cases h : (limbs (valL l)).length + (limbs (valL m)).length ≤ 4097 ∨ (limbs (valL l)).length = 0 ∨ (limbs (valL m)).length = 0
  · refine (muls_walk a b c d l m w hA hB hl hm h).mono ?_
    rintro e w' ⟨a', c', rfl, harr, hb⟩
    exact ⟨_, _, rfl, Done.of harr, hb⟩
  · refine (muls_long a b c d l m w hA hB hl hm (by omega) (by omega) (by omega)).mono ?_
    rintro e w' ⟨rfl, hb⟩
    have hA0 : valL l ≠ 0 := fun e => by rw [e, limbs_zero] at h; simp at h
    have hB0 : valL m ≠ 0 := fun e => by rw [e, limbs_zero] at h; simp at h
    have := length_prod (valL l) (valL m) hA0 hB0
    exact ⟨_, _, rfl, ⟨fun h1 => by omega, fun _ => ⟨rfl, rfl⟩⟩, hb⟩
/-- nat.Add at every two numbers that may be. -/
theorem Add_any (a b : Option Addr) (c d : Nat) (l m : List Nat) (w : World) (hA : Arr w a c l) (hB : Arr w b d m) (hl : (limbs (valL l)).length ≤ 4096) (hm : (limbs (valL m)).length ≤ 4096) :
    Calls Tryz.prog 108 #[.slice a l.length c, .slice b m.length d] w fun e w' => ∃ v x, e = .returned (.tuple #[v, x]) ∧ Done w' v x (valL l + valL m) ∧ Below w.heap.size w w' := by
  refine (add_any a b c d l m w hA hB hl hm).mono ?_
  rintro e w' ⟨a', c', rfl, harr, hb⟩
  exact ⟨_, _, rfl, Done.of harr, hb⟩
/-- A product that may be. -/
theorem Mul_ok (a b : Option Addr) (c d : Nat) (l m : List Nat) (w : World) (hA : Arr w a c l) (hB : Arr w b d m) (hl : (limbs (valL l)).length ≤ 4096) (hm : (limbs (valL m)).length ≤ 4096) (hN : (limbs (valL l * valL m)).length ≤ 4096) :
    Calls Tryz.prog 115 #[.slice a l.length c, .slice b m.length d] w fun e w' => ∃ a' c', e = .returned (.tuple #[.slice a' (limbs (valL l * valL m)).length c', .int .i64 0]) ∧ Arr w' a' c' (limbs (valL l * valL m)) ∧ Below w.heap.size w w' := by
  refine (Mul_any a b c d l m w hA hB hl hm).mono ?_
  rintro e w' ⟨v, x, rfl, hd, hb⟩
  obtain ⟨rfl, a', c', rfl, harr⟩ := hd.1 hN
  exact ⟨a', c', rfl, harr, hb⟩
theorem Add_ok (a b : Option Addr) (c d : Nat) (l m : List Nat) (w : World) (hA : Arr w a c l) (hB : Arr w b d m) (hl : (limbs (valL l)).length ≤ 4096) (hm : (limbs (valL m)).length ≤ 4096) (hN : (limbs (valL l + valL m)).length ≤ 4096) :
    Calls Tryz.prog 108 #[.slice a l.length c, .slice b m.length d] w fun e w' => ∃ a' c', e = .returned (.tuple #[.slice a' (limbs (valL l + valL m)).length c', .int .i64 0]) ∧ Arr w' a' c' (limbs (valL l + valL m)) ∧ Below w.heap.size w w' := by
  refine (Add_any a b c d l m w hA hB hl hm).mono ?_
  rintro e w' ⟨v, x, rfl, hd, hb⟩
  obtain ⟨rfl, a', c', rfl, harr⟩ := hd.1 hN
  exact ⟨a', c', rfl, harr, hb⟩
end Go.Proofs.YtjlaadadbpffdaaGreatDoor
