/-
  nat.sub, Sub at every two numbers.
-/
import Derived.Test.YtjfjkabmpiebpaaDoorNatD
import Derived.Test.YtjfjkabmpiebpaaDoorNatM
set_option linter.unusedSimpArgs false
set_option linter.unusedVariables false
namespace Go.Proofs.YtjfjkabmpiebpaaDoor
open Go.RowKit Go.Plumb

theorem borrowI_nat (x y b : Nat) : borrowI (x : Int) (y : Int) (b : Int) = ((borrowN x y b : Nat) : Int) := by
  unfold borrowI borrowN
  by_cases h : x < y + b
  · rw [if_pos h, if_pos (by omega)]; rfl
  · rw [if_neg h, if_neg (by omega)]; rfl
theorem subI_nat (x y b : Nat) (hx : x < 18446744073709551616) (hy : y < 18446744073709551616) (hb : b ≤ 1) : ((x : Int) - y - b) % 18446744073709551616 = ((subN x y b : Nat) : Int) := by
  unfold subN; omega
theorem borrowI_zero (x b : Nat) : borrowI (x : Int) 0 (b : Int) = ((borrowN x 0 b : Nat) : Int) := borrowI_nat x 0 b
theorem subI_zero (x b : Nat) (hx : x < 18446744073709551616) (hb : b ≤ 1) : ((x : Int) - b) % 18446744073709551616 = ((subN x 0 b : Nat) : Int) := by
  unfold subN; omega
/-- The limbs of a number are its list, cut. -/
theorem Arr.norm_take {w : World} {a : Option Addr} {c : Nat} {l : List Nat} (h : Arr w a c l) : l.take (limbs (valL l)).length = limbs (valL l) := limbs_take h.2.2.1
theorem OwnL.pos {w : World} {B : Nat} {v : Value} {l : List Nat} (h : OwnL w B v l) (h0 : 0 < l.length) : ∃ g cap, v = .slice (some ⟨g, 0, none⟩) l.length cap ∧ B ≤ g ∧ g < w.heap.size ∧ cap ≤ maxLen ∧ l.length ≤ cap := by
  obtain ⟨_, ⟨rfl, h1⟩ | ⟨g, cap, cur, rfl, hg, hh, hn, hcap, hsz, htake⟩⟩ := h
  · omega
  · exact ⟨g, cap, rfl, hg, (Array.getElem?_eq_some_iff.1 hh).1, hcap, hn⟩
/-- A shorter slice of what is owned owns its part. -/
theorem OwnL.take {w : World} {B : Nat} {a : Option Addr} {c : Nat} {l : List Nat} (h : OwnL w B (.slice a l.length c) l) (m : Nat) (hm : m ≤ l.length) (ha : a ≠ none) : OwnL w B (.slice a m c) (l.take m) := by
  obtain ⟨hx, ⟨e, h1⟩ | ⟨g, cap, cur, e, hg, hh, hn, hcap, hsz, htake⟩⟩ := h
  · simp only [Value.slice.injEq] at e; exact absurd e.1 ha
  · simp only [Value.slice.injEq] at e
    obtain ⟨rfl, _, rfl⟩ := e
    have hl : (l.take m).length = m := by simp; omega
    refine ⟨by simp, .inr ⟨g, c, cur, by rw [hl], hg, hh, by rw [hl]; omega, hcap, hsz, ?_⟩⟩
    rw [hl, List.map_take, ← htake, List.take_take]
    congr 1
    omega
theorem OwnL.take_of {w : World} {B : Nat} {g c : Nat} {l l' : List Nat} (h : OwnL w B (.slice (some ⟨g, 0, none⟩) l.length c) l) (h' : l.take l'.length = l') : OwnL w B (.slice (some ⟨g, 0, none⟩) (l.take l'.length).length c) (l.take l'.length) := by
  have hm : l'.length ≤ l.length := by
    have := congrArg List.length h'
    rw [List.length_take] at this
    omega
  have := OwnL.take h l'.length hm (by simp)
  rwa [show (l.take l'.length).length = l'.length by rw [h']]
theorem clone_pos (a : Option Addr) (c : Nat) (l : List Nat) (w : World) (h : Arr w a c l) (hbig : l.length ≤ 1000000) (h0 : 0 < l.length) :
    Calls Tryd.prog 71 #[.slice a l.length c] w fun e w' => ∃ g cap, e = .returned (.slice (some ⟨g, 0, none⟩) l.length cap) ∧ OwnL w' w.heap.size (.slice (some ⟨g, 0, none⟩) l.length cap) l ∧ Below w.heap.size w w' ∧ w.heap.size ≤ g := by
  refine (clone_any a c l w h hbig).mono ?_
  rintro e w' ⟨v, rfl, ho, hb⟩
  obtain ⟨g, cap, rfl, h1, _⟩ := ho.pos h0
  exact ⟨g, cap, rfl, ho, hb, h1⟩

/-- What holds at the head of each round of sub. -/
structure SubRel (w : World) (g cap : Nat) (la lb : List Nat) (i : Nat) (os : List Nat) (bo : Nat) (wr : World) : Prop where
  len : os.length = i
  limbs : Limbs os
  val : valL os + valL (lb.take i) = valL (la.take i) + 18446744073709551616 ^ i * bo
  own : OwnL wr w.heap.size (.slice (some ⟨g, 0, none⟩) la.length cap) (overL os la)
  below : Below w.heap.size w wr
theorem OwnL.len {w : World} {B : Nat} {a : Option Addr} {n c : Nat} {l : List Nat} (h : OwnL w B (.slice a n c) l) : n = l.length := by
  obtain ⟨_, ⟨e, h1⟩ | ⟨g, cap, cur, e, _⟩⟩ := h
  · simp only [Value.slice.injEq] at e; omega
  · simp only [Value.slice.injEq] at e; exact e.2.1
theorem OwnL.cell {w : World} {B : Nat} {g n c : Nat} {l : List Nat} (h : OwnL w B (.slice (some ⟨g, 0, none⟩) n c) l) (j x : Nat) (hj : l[j]? = some x) : w.cell? ⟨g, j, none⟩ = some (.int .u64 (x : Int)) := by
  have hn := (List.getElem?_eq_some_iff.1 hj).1
  obtain rfl := h.len
  unfold OwnL at h
  have h2 := World.ownsRow.cellAt h j (by omega)
  rw [h2, List.getElem?_map, hj]; rfl
theorem OwnL.thaw {w : World} {B : Nat} {g n c : Nat} {l : List Nat} (h : OwnL w B (.slice (some ⟨g, 0, none⟩) n c) l) (j : Nat) : w.frozen? ⟨g, j, none⟩ = false := by
  obtain rfl := h.len
  unfold OwnL at h
  exact World.ownsRow.frozenAt h j
theorem OwnL.store {w : World} {B : Nat} {g n c : Nat} {l : List Nat} (h : OwnL w B (.slice (some ⟨g, 0, none⟩) n c) l) (j x : Nat) (v : Int) (hv : v = (x : Int)) : OwnL (w.setCell ⟨g, j, none⟩ (.int .u64 v)) B (.slice (some ⟨g, 0, none⟩) n c) (l.set j x) := by
  subst hv
  obtain rfl := h.len
  unfold OwnL at h
  have := (World.ownsRow.stored h j (limbV x)).1
  rw [← List.map_set] at this
  unfold OwnL
  rw [List.length_set]
  exact this
theorem SubRel.step {w : World} {g cap : Nat} {la lb : List Nat} {i : Nat} {os : List Nat} {bo : Nat} {wr : World} (h : SubRel w g cap la lb i os bo wr) (hgw : w.heap.size ≤ g) (hi : i < la.length) (hbo : bo ≤ 1) (x y : Nat) (hx : la.getD i 0 = x) (hy : lb.getD i 0 = y) (hxl : x < 18446744073709551616) (hyl : y < 18446744073709551616) (v : Int) (hv : v = ((subN x y bo : Nat) : Int)) :
    SubRel w g cap la lb (i + 1) (os ++ [subN x y bo]) (borrowN x y bo) (wr.setCell ⟨g, i, none⟩ (.int .u64 v)) := by
  obtain ⟨hos, hlo, hval, hown, hB⟩ := h
  refine ⟨by simp [hos], hlo.append (Limbs.cons (Nat.mod_lt _ (by decide)) Limbs.nil), subs_step la lb os i bo x y hos hbo hxl hyl hval hx hy, ?_, hB.setCell hgw _⟩
  have := hown.store i _ v hv
  rw [← hos, overL_set os la _ (by omega)] at this
  rw [← hos]
  exact this
set_option maxHeartbeats 2000000 in
theorem sub_core (a b : Option Addr) (c d : Nat) (la lb : List Nat) (w : World) (hA : Arr w a c la) (hB : Arr w b d lb) (h0 : 0 < la.length) (hbig : la.length ≤ 1000000) (hle : valL lb ≤ valL la) (hlen : lb.length ≤ la.length) :
    Calls Tryd.prog 57 #[.slice a la.length c, .slice b lb.length d] w fun e w' => ∃ g cap, e = .returned (.slice (some ⟨g, 0, none⟩) (limbs (valL la - valL lb)).length cap) ∧ OwnL w' w.heap.size (.slice (some ⟨g, 0, none⟩) (limbs (valL la - valL lb)).length cap) (limbs (valL la - valL lb)) ∧ Below w.heap.size w w' := by
  have hC := clone_pos a c la w hA hbig h0
  have HA : Hid (∀ wr, Below w.heap.size w wr → Arr wr a c la) := Lib.hid fun wr h => hA.below h
  have HB : Hid (∀ wr, Below w.heap.size w wr → Arr wr b d lb) := Lib.hid fun wr h => hB.below h
  obtain ⟨n1, hn1⟩ : ∃ n1, la.length = n1 := ⟨_, rfl⟩
  obtain ⟨n2, hn2⟩ : ∃ n2, lb.length = n2 := ⟨_, rfl⟩
  have HL : Hid (valL lb ≤ valL la) := Lib.hid hle
  have Hn1 := Lib.hid hn1
  have Hn2 := Lib.hid hn2
  rw [hn1] at hC h0 hbig hlen
  rw [hn1, hn2]
  rw [hn2] at hlen
  have hsubr := run_sub
  clear hA hB hle hn1 hn2
  go_enter Tryd.func57, Tryd.ntmps57
  go_wp2_with fail
  refine hC.mono ?_
  rintro e w1 ⟨g, cap, rfl, hown, hb, hgw⟩
  have HO := Lib.hid hown
  have Hg := Lib.hid hgw
  have HBl := Lib.hid hb
  clear hC hown hb
  go_wp2_with fail
  go_loopw [6, 13] (fun u v wr => ∃ (i : Nat) (os : List Nat) (bo : Nat), i ≤ n1 ∧ v = .int .i64 (i : Int) ∧ u = .int .u64 (bo : Int) ∧ bo ≤ 1 ∧ Hid (SubRel w g cap la lb i os bo wr)) (fun _ v _ => n1 - (intOf v).toNat)
  case atStart => exact ⟨0, [], 0, Nat.zero_le _, rfl, rfl, by omega, Lib.hid ⟨rfl, Limbs.nil, by simp [valL], by rw [overL_nil, Hn1.out]; exact HO.out, HBl.out⟩⟩
  case round =>
    obtain ⟨i, os, bo, hi, rfl, rfl, hbo, hR⟩ := hrel
    by_cases hlt : i < n1
    · obtain ⟨b1, o1, ea, hc1⟩ := (HA.out wr hR.out.below).2.2.2 i (by have := Hn1.out; omega)
      obtain ⟨x, hx⟩ : ∃ x, la.getD i 0 = x := ⟨_, rfl⟩
      obtain ⟨y, hy⟩ : ∃ y, lb.getD i 0 = y := ⟨_, rfl⟩
      have hxl : x < 18446744073709551616 := by rw [← hx]; exact (HA.out wr hR.out.below).2.2.1.get i
      have hyl : y < 18446744073709551616 := by rw [← hy]; exact (HB.out wr hR.out.below).2.2.1.get i
      have HX := Lib.hid hx
      have HY := Lib.hid hy
      rw [hx] at hc1
      have hco : wr.cell? ⟨g, i, none⟩ = some (.int .u64 (x : Int)) := by
        refine hR.out.own.cell i x ?_
        have h1 := hR.out.len
        have h2 := Hn1.out
        rw [← h1, overL_at, h1, List.getElem?_eq_getElem (by omega), ← HX.out]
        simp [List.getD, show i < la.length by omega]
      have hfo := hR.out.own.thaw i
      subst ea
      have hrs := hsubr x y bo (by omega) (by omega) (by omega) (by omega) (by omega)
      by_cases hi2 : i < n2
      · obtain ⟨b2, o2, eb, hc2⟩ := (HB.out wr hR.out.below).2.2.2 i (by have := Hn2.out; omega)
        rw [hy] at hc2
        subst eb
        clear hx hy
        go_wp2_with fail
        go_roundw
        case rel => exact ⟨i + 1, os ++ [subN x y bo], borrowN x y bo, by omega, by go_num, congrArg _ (borrowI_nat x y bo), borrowN_le _ _ _, Lib.hid (hR.out.step Hg.out (by have := Hn1.out; omega) hbo x y HX.out HY.out hxl hyl _ (subI_nat x y bo hxl hyl hbo))⟩
        case measure => simp [intOf]; omega
      · have hy0 : y = 0 := by rw [← hy]; simp [List.getD, List.getElem?_eq_none (show lb.length ≤ i by have := Hn2.out; omega)]
        clear hx hy
        subst hy0
        have hrs0 := hsubr x 0 bo (by omega) (by omega) (by omega) (by omega) (by omega)
        simp only [Int.sub_zero] at hrs0
        clear hrs hsubr hyl
        go_wp2_with fail
        go_roundw
        case rel => exact ⟨i + 1, os ++ [subN x 0 bo], borrowN x 0 bo, by omega, by go_num, congrArg _ (borrowI_zero x bo), borrowN_le _ _ _, Lib.hid (hR.out.step Hg.out (by have := Hn1.out; omega) hbo x 0 HX.out HY.out hxl (by omega) _ (subI_zero x bo hxl hbo))⟩
        case measure => simp [intOf]; omega
    · obtain rfl : i = n1 := by omega
      have hE := subs_end la lb os bo (by rw [hR.out.len, Hn1.out]) hR.out.limbs HL.out (by have := Hn1.out; have := Hn2.out; omega) (by rw [Hn1.out]; exact hR.out.val)
      have hOw := hR.out.own
      rw [overL_full os la (by rw [hR.out.len, Hn1.out]), Hn1.out] at hOw
      obtain ⟨a', c', e2, harr⟩ := hOw.arr hR.out.limbs
      simp only [Value.slice.injEq] at e2
      obtain ⟨rfl, e3, rfl⟩ := e2
      clear e3
      have hT := trim_any _ _ _ _ harr
      rw [hR.out.len, hE] at hT
      have HOw := Lib.hid hOw
      have HArr := Lib.hid harr
      have HE := Lib.hid hE
      clear hE hOw harr
      go_wp2_with (go_at_call 60; (with_reducible refine hT.mono ?_); rintro e w' ⟨rfl, rfl⟩)
      go_ret
      refine ⟨g, cap, rfl, ?_, hR.out.below⟩
      have hn := Arr.norm_take HArr.out
      rw [HE.out] at hn
      rw [← hn]
      have h2 := HOw.out
      rw [← hR.out.len] at h2
      exact OwnL.take_of h2 hn
theorem OwnL.shape {w : World} {B : Nat} {v : Value} {l : List Nat} (h : OwnL w B v l) : ∃ a c, v = .slice a l.length c := by
  obtain ⟨_, ⟨rfl, h1⟩ | ⟨g, cap, cur, rfl, _⟩⟩ := h
  · exact ⟨none, 0, by rw [h1]⟩
  · exact ⟨_, _, rfl⟩
theorem sub_nil (a b : Option Addr) (c d n : Nat) (w : World) (hA : Arr w a c []) :
    Calls Tryd.prog 57 #[.slice a 0 c, .slice b n d] w fun e w' => ∃ a' c', e = .returned (.slice a' 0 c') ∧ OwnL w' w.heap.size (.slice a' 0 c') [] ∧ Below w.heap.size w w' := by
  have hC := clone_any a c [] w hA (by simp)
  simp only [List.length_nil] at hC
  have hT := trim_none
  go_enter Tryd.func57, Tryd.ntmps57
  go_wp2_with fail
  refine hC.mono ?_
  rintro e w1 ⟨v, rfl, hown, hb⟩
  obtain ⟨a', c', rfl⟩ := hown.shape
  simp only [List.length_nil] at hown ⊢
  have HO := Lib.hid hown
  have HB := Lib.hid hb
  clear hC hown hb hA
  go_wp2_with fail
  go_loopw [6, 13] (fun u v wr => u = .int .u64 0 ∧ v = .int .i64 0 ∧ Hid (wr = w1)) (fun _ v _ => 0)
  case atStart => exact ⟨rfl, rfl, Lib.hid rfl⟩
  case round =>
    obtain ⟨rfl, rfl, hw⟩ := hrel
    have e := hw.out
    subst e
    go_wp2_with (go_at_call 60; (with_reducible refine (trim_none _ _ _).mono ?_); rintro e w' ⟨rfl, rfl⟩)
    go_ret
    exact ⟨a', c', rfl, HO.out, HB.out⟩
/-- nat.sub of two normal numbers. -/
theorem sub_any (a b : Option Addr) (c d A B : Nat) (w : World) (hA : Arr w a c (limbs A)) (hB : Arr w b d (limbs B)) (hlA : (limbs A).length ≤ 1000000) (hle : B ≤ A) :
    Calls Tryd.prog 57 #[.slice a (limbs A).length c, .slice b (limbs B).length d] w fun e w' => ∃ a' c', e = .returned (.slice a' (limbs (A - B)).length c') ∧ OwnL w' w.heap.size (.slice a' (limbs (A - B)).length c') (limbs (A - B)) ∧ Below w.heap.size w w' := by
  by_cases h0 : limbs A = []
  · have hA0 := (limbs_nil_iff A).1 h0
    subst hA0
    obtain rfl : B = 0 := by omega
    rw [Nat.sub_zero, limbs_zero] at *
    exact sub_nil a b c d _ w hA
  · have hlen : (limbs B).length ≤ (limbs A).length := by
      apply Nat.le_of_not_lt
      intro h
      have := lt_of_length h
      omega
    have h := sub_core a b c d (limbs A) (limbs B) w hA hB (List.length_pos_iff.2 h0) hlA (by rw [valL_limbs, valL_limbs]; exact hle) hlen
    rw [valL_limbs, valL_limbs] at h
    refine h.mono ?_
    rintro e w' ⟨g, cap, he, ho, hb⟩
    exact ⟨_, cap, he, ho, hb⟩
theorem cmpN_lt (a b : Nat) : (cmpN a b < 0) ↔ a < b := by unfold cmpN; split <;> (try split) <;> omega

set_option maxHeartbeats 1000000 in
/-- nat.Sub at every two numbers that may be: the difference. -/
theorem Sub_ok (a b : Option Addr) (c d : Nat) (l m : List Nat) (w : World) (hA : Arr w a c l) (hB : Arr w b d m) (hl : (limbs (valL l)).length ≤ 4096) (hm : (limbs (valL m)).length ≤ 4096) (hle : valL m ≤ valL l) :
    Calls Tryd.prog 21 #[.slice a l.length c, .slice b m.length d] w fun e w' => ∃ a' c', e = .returned (.tuple #[.slice a' (limbs (valL l - valL m)).length c', .int .i64 0]) ∧ Arr w' a' c' (limbs (valL l - valL m)) ∧ Below w.heap.size w w' := by
  have hO := open2_in a b c d l m w hA hB hl hm
  obtain ⟨w2, hw2⟩ : ∃ w2, ((w.alloc (.cells #[.slice a (limbs (valL l)).length c] 22)).alloc (.cells #[.slice b (limbs (valL m)).length d] 22)).alloc (.cells #[.pointer (some ⟨w.heap.size, 0, none⟩), .pointer (some ⟨w.heap.size + 1, 0, none⟩)] 62) = w2 := ⟨_, rfl⟩
  have hB2 : Below w.heap.size w w2 := by rw [← hw2]; (repeat' (first | exact Below.refl _ _ | assumption | (refine below_alloc ?_ _) | (refine Below.setCell ?_ ?_ _) | (refine Below.drew ?_) | (refine below_drewN ?_ _))) <;> (first | (simp; done) | (simp; omega) | omega)
  have hAn := hA.norm.below hB2
  have hBn := hB.norm.below hB2
  rw [hw2] at hO
  have c1 : w2.cell? ⟨w.heap.size, 0, none⟩ = some (.slice a (limbs (valL l)).length c) := by rw [← hw2]; simp [go_sem]
  have c2 : w2.cell? ⟨w.heap.size + 1, 0, none⟩ = some (.slice b (limbs (valL m)).length d) := by rw [← hw2]; simp [go_sem]
  have hs2 : w.heap.size + 1 < w2.heap.size := by rw [← hw2]; simp
  clear hw2
  obtain ⟨s, hs⟩ : ∃ s, cmpN (valL l) (valL m) = s := ⟨_, rfl⟩
  have hs0 : ¬ s < 0 := by rw [← hs, cmpN_lt]; omega
  have hcmp := cmp_any a b c d (valL l) (valL m) w2 hAn hBn
  rw [hs] at hcmp
  go_enter Tryd.func21, Tryd.ntmps21
  go_wp2_with fail
  refine hO.mono ?_
  rintro e w' ⟨rfl, rfl⟩
  have HA : Hid (∀ wr, Below w.heap.size w wr → Arr wr a c (limbs (valL l))) := Lib.hid fun wr h => hA.norm.below h
  have HB : Hid (∀ wr, Below w.heap.size w wr → Arr wr b d (limbs (valL m))) := Lib.hid fun wr h => hB.norm.below h
  have HB2 := Lib.hid hB2
  clear hA hB hAn hBn hO hB2
  go_wp2_with fail
  refine hcmp.mono ?_
  rintro e w3 ⟨rfl, hb3⟩
  have k1 := (hb3.cell (p := ⟨w.heap.size, 0, none⟩) (by simp; omega)).trans c1
  have k2 := (hb3.cell (p := ⟨w.heap.size + 1, 0, none⟩) hs2).trans c2
  have HB3 := Lib.hid (below_step HB2.out hb3)
  have hS := sub_any a b c d (valL l) (valL m) w3 (HA.out _ HB3.out) (HB.out _ HB3.out) (by omega) hle
  clear hb3 hcmp c1 c2 hs
  go_wp2_with fail
  refine hS.mono ?_
  rintro e w4 ⟨a', c', rfl, ho, hb4⟩
  have HO := Lib.hid ho
  have HB4 := Lib.hid (below_step HB3.out hb4)
  clear hS ho hb4
  go_wp2_with fail
  go_ret2
  obtain ⟨a2, c2, e2, harr⟩ := HO.out.arr (limbs_limbs _)
  simp only [Value.slice.injEq] at e2
  obtain ⟨rfl, _, rfl⟩ := e2
  exact ⟨_, _, rfl, harr, HB4.out⟩

set_option maxHeartbeats 1000000 in
/-- nat.Sub at every two numbers that may be: refused, where it would be below 0. -/
theorem Sub_less (a b : Option Addr) (c d : Nat) (l m : List Nat) (w : World) (hA : Arr w a c l) (hB : Arr w b d m) (hl : (limbs (valL l)).length ≤ 4096) (hm : (limbs (valL m)).length ≤ 4096) (hlt : valL l < valL m) :
    Calls Tryd.prog 21 #[.slice a l.length c, .slice b m.length d] w fun e w' => e = .returned (.tuple #[.slice none 0 0, .int .i64 2]) ∧ Below w.heap.size w w' := by
  have hO := open2_in a b c d l m w hA hB hl hm
  obtain ⟨w2, hw2⟩ : ∃ w2, ((w.alloc (.cells #[.slice a (limbs (valL l)).length c] 22)).alloc (.cells #[.slice b (limbs (valL m)).length d] 22)).alloc (.cells #[.pointer (some ⟨w.heap.size, 0, none⟩), .pointer (some ⟨w.heap.size + 1, 0, none⟩)] 62) = w2 := ⟨_, rfl⟩
  have hB2 : Below w.heap.size w w2 := by rw [← hw2]; (repeat' (first | exact Below.refl _ _ | assumption | (refine below_alloc ?_ _) | (refine Below.setCell ?_ ?_ _) | (refine Below.drew ?_) | (refine below_drewN ?_ _))) <;> (first | (simp; done) | (simp; omega) | omega)
  have hAn := hA.norm.below hB2
  have hBn := hB.norm.below hB2
  rw [hw2] at hO
  have c1 : w2.cell? ⟨w.heap.size, 0, none⟩ = some (.slice a (limbs (valL l)).length c) := by rw [← hw2]; simp [go_sem]
  have c2 : w2.cell? ⟨w.heap.size + 1, 0, none⟩ = some (.slice b (limbs (valL m)).length d) := by rw [← hw2]; simp [go_sem]
  have hs2 : w.heap.size + 1 < w2.heap.size := by rw [← hw2]; simp
  clear hw2
  obtain ⟨s, hs⟩ : ∃ s, cmpN (valL l) (valL m) = s := ⟨_, rfl⟩
  have hs0 : s < 0 := by rw [← hs, cmpN_lt]; omega
  have hcmp := cmp_any a b c d (valL l) (valL m) w2 hAn hBn
  rw [hs] at hcmp
  go_enter Tryd.func21, Tryd.ntmps21
  go_wp2_with fail
  refine hO.mono ?_
  rintro e w' ⟨rfl, rfl⟩
  have HA : Hid (∀ wr, Below w.heap.size w wr → Arr wr a c (limbs (valL l))) := Lib.hid fun wr h => hA.norm.below h
  have HB : Hid (∀ wr, Below w.heap.size w wr → Arr wr b d (limbs (valL m))) := Lib.hid fun wr h => hB.norm.below h
  have HB2 := Lib.hid hB2
  clear hA hB hAn hBn hO hB2
  go_wp2_with fail
  refine hcmp.mono ?_
  rintro e w3 ⟨rfl, hb3⟩
  have k1 := (hb3.cell (p := ⟨w.heap.size, 0, none⟩) (by simp; omega)).trans c1
  have k2 := (hb3.cell (p := ⟨w.heap.size + 1, 0, none⟩) hs2).trans c2
  have HB3 := Lib.hid (below_step HB2.out hb3)
  clear hb3 hcmp c1 c2 hs
  go_wp2_with fail
  go_ret2
  exact ⟨rfl, HB3.out⟩
end Go.Proofs.YtjfjkabmpiebpaaDoor
