/-
  nat.chunks: the iterator over a number's chunks of nineteen digits.
-/
import Derived.Test.YtjfjkabmpiebpaaDoorNatBg
import Derived.Deep.Cut
set_option linter.unusedSimpArgs false
set_option linter.unusedVariables false
namespace Go.Plumb
theorem chunk_step (ds qs : List Nat) (k i x rest : Nat) (hk : k ≤ ds.length) (hi : k = i + 1) (hq : qs.length = ds.length - k) (hx : ds.getD i 0 = x) (hv : valL (ds.drop k) = 10000000000000000000 * valL qs + rest) :
    (ds.take k ++ qs).set i ((rest * 18446744073709551616 + x) / 10000000000000000000) = ds.take i ++ ((rest * 18446744073709551616 + x) / 10000000000000000000 :: qs) ∧ valL (ds.drop i) = 10000000000000000000 * valL ((rest * 18446744073709551616 + x) / 10000000000000000000 :: qs) + (rest * 18446744073709551616 + x) % 10000000000000000000 := by
  subst hi
  have hlt : i < ds.length := by omega
  have hxi : ds[i] = x := by rw [← hx]; simp [List.getD, hlt]
  constructor
  · rw [List.take_succ_eq_append_getElem hlt, List.append_assoc, List.set_append_right _ _ (by simp; omega)]
    simp [List.length_take, Nat.min_eq_left (Nat.le_of_lt hlt)]
  · rw [List.drop_eq_getElem_cons hlt, hxi]
    simp only [valL, hv]
    omega
end Go.Plumb
namespace Go.Proofs.YtjfjkabmpiebpaaDoor
open Go.RowKit Go.Plumb

set_option maxHeartbeats 1000000 in
theorem chunks_make (a : Option Addr) (n c : Nat) (w : World) :
    Calls Tryd.prog 63 #[.slice a n c] w fun e w' => e = .returned (.func (.func 75) #[] #[.pointer (some ⟨w.heap.size, 0, none⟩)]) ∧ w' = w.alloc (.cells #[.slice a n c] 22) := by
  go_enter Tryd.func63, Tryd.ntmps63
  go_wp2_with fail
  go_ret
  exact ⟨rfl, rfl⟩

theorem OwnL.keptCells {w w' : World} {B K n c : Nat} {l : List Nat} (h : OwnL w B (.slice (some ⟨K, 0, none⟩) n c) l) (hk : KeptCells K w w') : OwnL w' B (.slice (some ⟨K, 0, none⟩) n c) l := by
  obtain ⟨hx, ⟨hn, _⟩ | ⟨g, cap, cur, e, hg, hh, rest⟩⟩ := h
  · simp at hn
  · simp only [Value.slice.injEq, Option.some.injEq, Addr.mk.injEq] at e
    obtain ⟨⟨rfl, _⟩, rfl, rfl⟩ := e
    exact ⟨hx, .inr ⟨_, _, cur, rfl, hg, hk.2 _ hh rfl, rest⟩⟩
theorem OwnL.cellsAt {w : World} {B K n c : Nat} {l : List Nat} (h : OwnL w B (.slice (some ⟨K, 0, none⟩) n c) l) : CellsAt 36 K w := by
  obtain ⟨hx, ⟨hn, _⟩ | ⟨g, cap, cur, e, hg, hh, rest⟩⟩ := h
  · simp at hn
  · simp only [Value.slice.injEq, Option.some.injEq, Addr.mk.injEq] at e
    obtain ⟨⟨rfl, _⟩, rfl, rfl⟩ := e
    exact ⟨_, _, hh⟩
set_option maxRecDepth 20000 in
set_option maxHeartbeats 1000000 in
theorem chunk1_in (n l Bn B V N : Nat) (hn : 2 ≤ n) (J : List Nat → World → Prop)
    (hJb : ∀ pre W1 W2, J pre W1 → Below W1.heap.size W1 W2 → J pre W2) (hJs : ∀ K pre W1 i v, B ≤ K → CellsAt 36 K W1 → J pre W1 → J pre (W1.setCell ⟨K, i, none⟩ v))
    (hY : ∀ K (pre : List Nat) (x : Nat) W1, x < 10000000000000000000 → B ≤ K → CellsAt 36 K W1 → J pre W1 → pre.length < N → YieldAt Fence.wide (n - 1) Tryd.prog l #[.int .u64 (x : Int)] W1 fun e W' => e = .returned (.bool true) ∧ J (pre ++ [x]) W' ∧ KeptCells K W1 W')
    (hN : (chunksN V).length ≤ N) (hV : (limbs V).length ≤ 10000)
    (W : World) (a : Option Addr) (c m : Nat) (hm : (limbs V).length = m) (hBn : W.cell? ⟨Bn, 0, none⟩ = some (.slice a m c))
    (hC : Calls Tryd.prog 71 #[.slice a m c] W fun e w' => ∃ K cap, e = .returned (.slice (some ⟨K, 0, none⟩) m cap) ∧ Hid (OwnL w' B (.slice (some ⟨K, 0, none⟩) m cap) (limbs V)) ∧ Hid (B ≤ K) ∧ Hid (J [] w')) :
    CallsIn Fence.wide n Tryd.prog 75 #[.func (.yield l) #[] #[], .pointer (some ⟨Bn, 0, none⟩)] W fun e W' => (∃ v, e = .returned v) ∧ J (chunksN V) W' := by
  have HN := Lib.hid hN
  have HV := Lib.hid hV
  have Hm := Lib.hid hm
  have HJb := Lib.hid hJb
  have HJs := Lib.hid hJs
  clear hN hV hm hJb hJs
  refine callsIn_of_wp Tryd.func75 rfl trivial ?_ rfl
  refine wpIn_wide.2 ?_
  simp only [Tryd.ntmps75, List.size_toArray, List.length_cons, List.length_nil, Nat.reduceAdd, Nat.reduceSub, Array.replicate_succ, Array.replicate_zero, List.push_toArray, List.append_toArray, List.nil_append, List.cons_append]
  go_wp2_with fail
  refine hC.mono ?_
  rintro e w1 ⟨K, cap, rfl, hO, hKB, hJ⟩
  clear hC
  go_wp2_with fail
  go_loopg [3] V (fun g v3 wr => ∃ (n1 : Nat) (pre : List Nat), v3 = .slice (some ⟨K, 0, none⟩) n1 cap ∧ Hid (n1 = (limbs g).length ∧ pre ++ chunksN g = chunksN V ∧ g ≤ V) ∧ Hid (OwnL wr B (.slice (some ⟨K, 0, none⟩) n1 cap) (limbs g)) ∧ Hid (J pre wr))
  case atStart => exact ⟨m, [], rfl, Lib.hid ⟨Hm.out.symm, rfl, Nat.le_refl _⟩, hO, hJ⟩
  case round =>
    clear hO hJ
    obtain ⟨n1, pre, rfl, hD, hown, hJ⟩ := hrel
    by_cases hg : gk = 0
    · have hx0 : n1 = 0 := by rw [hD.out.1, hg, limbs_zero]; rfl
      subst hx0
      have hpre : Hid (pre = chunksN V) := Lib.hid (by have := hD.out.2.1; rw [hg, chunksN_zero, List.append_nil] at this; exact this)
      clear hg
      go_wp2_with fail
      go_end0
      exact ⟨⟨_, rfl⟩, by rw [← hpre.out]; exact hJ.out⟩
    · have hn0 : 0 < n1 := by
        rw [hD.out.1]
        apply Nat.pos_of_ne_zero
        intro h
        have := congrArg valL (List.eq_nil_of_length_eq_zero h)
        rw [valL_limbs] at this
        exact hg this
      have hn1 : n1 ≤ 10000 := by rw [hD.out.1]; exact Nat.le_trans (length_mono hD.out.2.2) HV.out
      have Hg := Lib.hid hg
      have Hn1 := Lib.hid hn1
      obtain ⟨ds, hds⟩ : ∃ ds, limbs gk = ds := ⟨_, rfl⟩
      have HDS : Hid (ds.length = n1 ∧ valL ds = gk ∧ Limbs ds) := Lib.hid ⟨by rw [← hds]; exact hD.out.1.symm, by rw [← hds, valL_limbs], by rw [← hds]; exact limbs_limbs _⟩
      rw [hds] at hown
      clear hg hds
      have f1 : IntKind.i64.wrap ((n1 : Int) - 1) = (n1 : Int) - 1 := IntWalk.i64_in _ ⟨by omega, by omega⟩
      clear hn1
      go_wp2_with fail
      go_loopw [4, 5] (fun u v wx => ∃ (k rest : Nat) (qs : List Nat), k ≤ n1 ∧ v = .int .i64 ((k : Int) - 1) ∧ u = .int .u64 (rest : Int) ∧ Hid (rest < 10000000000000000000 ∧ qs.length = n1 - k ∧ Limbs qs ∧ valL (ds.drop k) = 10000000000000000000 * valL qs + rest) ∧ Hid (OwnL wx B (.slice (some ⟨K, 0, none⟩) n1 cap) (ds.take k ++ qs)) ∧ Hid (J pre wx)) (fun _ v _ => (intOf v + 1).toNat)
      case atStart => exact ⟨n1, 0, [], Nat.le_refl _, rfl, rfl, Lib.hid ⟨by decide, by simp, Limbs.nil, by rw [List.drop_of_length_le (by rw [HDS.out.1]; exact Nat.le_refl _)]; rfl⟩, Lib.hid (by rw [List.take_of_length_le (show ds.length ≤ n1 by rw [HDS.out.1]; exact Nat.le_refl _), List.append_nil]; exact hown.out), hJ⟩
      case round =>
        clear hJ hown
        obtain ⟨k, rest, qs, hk, rfl, rfl, hS, hown, hJ⟩ := hrel
        by_cases hz : k = 0
        · subst hz
          have hqn : qs.length = n1 := by have := hS.out.2.1; omega
          have ho2 := hown.out
          rw [List.take_zero, List.nil_append] at ho2
          have hv := hS.out.2.2.2
          rw [List.drop_zero, HDS.out.2.1] at hv
          have hrl := hS.out.1
          obtain ⟨q, hq⟩ : ∃ q, gk / 10000000000000000000 = q := ⟨_, rfl⟩
          have HR : Hid (chunksN gk = rest :: chunksN q ∧ valL qs = q ∧ q < gk) := Lib.hid ⟨by rw [chunksN_pos Hg.out, hq]; congr 1; omega, by omega, by have := Hg.out; omega⟩
          have hlen : pre.length < N := by
            have := congrArg List.length hD.out.2.1
            rw [List.length_append, HR.out.1, List.length_cons] at this
            have := HN.out; omega
          obtain ⟨fn, tmps, assign, body, hy, hR⟩ := hY K pre rest wr hrl hKB.out (OwnL.cellsAt ho2) hJ.out hlen
          have HO2 := Lib.hid ho2
          have HLQ := Lib.hid hS.out.2.2.1
          have HQN := Lib.hid hqn
          clear hq hv hrl hlen hqn ho2 f1 hk
          go_upto_region 8 with (fail)
          refine (wpIn_wide (n := n)).1 ?_
          gi_wp2
          refine ⟨fun _ => by omega, hR.mono ?_⟩
          rintro e w3 ⟨rfl, hJ3, hk3⟩
          have hO4 := OwnL.keptCells HO2.out hk3
          obtain ⟨hA4, hn4⟩ : Arr w3 (some ⟨K, 0, none⟩) cap qs ∧ qs.length = n1 := ⟨OwnL.arr' hO4 HLQ.out, HQN.out⟩
          have hT := trim_any (some ⟨K, 0, none⟩) cap qs w3 hA4
          obtain ⟨n2, hn2⟩ : ∃ n2, (limbs q).length = n2 := ⟨_, rfl⟩
          rw [hn4, HR.out.2.1, hn2] at hT
          have Hn2 := Lib.hid hn2
          have HO4 := Lib.hid hO4
          have HA4 := Lib.hid hA4
          have HJ3 := Lib.hid hJ3
          clear hO4 hA4 hn4 hn2 hJ3 hk3 hR
          gi_wp2
          go_wp2_with fail
          refine hT.mono ?_
          rintro e w4 ⟨rfl, rfl⟩
          clear hT
          go_wp2_with fail
          go_roundg q
          case rel =>
            refine ⟨n2, pre ++ [rest], rfl, Lib.hid ⟨Hn2.out.symm, by rw [← hD.out.2.1, HR.out.1, List.append_assoc]; rfl, by have := HR.out.2.2; have := hD.out.2.2; omega⟩, Lib.hid ?_, HJ3⟩
            have hn := Arr.norm_take HA4.out
            rw [HR.out.2.1] at hn
            have h2 := HO4.out
            rw [← HQN.out] at h2
            have h3 := OwnL.take_of h2 hn
            rw [hn, Hn2.out] at h3
            exact h3
          case measure => exact HR.out.2.2
        · obtain ⟨i, rfl⟩ : ∃ i, k = i + 1 := ⟨k - 1, by omega⟩
          obtain ⟨x, hx⟩ : ∃ x, ds.getD i 0 = x := ⟨_, rfl⟩
          have hxl : x < 18446744073709551616 := by rw [← hx]; exact HDS.out.2.2.get i
          have hrl := hS.out.1
          have hst := chunk_step ds qs (i + 1) i x rest (by rw [HDS.out.1]; exact hk) rfl (by rw [HDS.out.1]; exact hS.out.2.1) hx hS.out.2.2.2
          have hDv := fun wz => div64_any rest x 10000000000000000000 wz hrl hxl (by decide) (by decide)
          obtain ⟨S, hSe⟩ : ∃ S, rest * 18446744073709551616 + x = S := ⟨_, rfl⟩
          obtain ⟨q, hq⟩ : ∃ q, S / 10000000000000000000 = q := ⟨_, rfl⟩
          obtain ⟨r, hr⟩ : ∃ r, S % 10000000000000000000 = r := ⟨_, rfl⟩
          simp only [hSe, hq, hr] at hDv
          rw [hSe, hq, hr] at hst
          have hlt : i < (ds.take (i + 1) ++ qs).length := by rw [List.length_append, List.length_take, HDS.out.1]; omega
          have ho2 := hown.out
          have hgx : (ds.take (i + 1) ++ qs)[i]? = some x := by
            rw [List.getElem?_append_left (by rw [List.length_take, HDS.out.1]; omega), List.getElem?_take_of_lt (by omega), List.getElem?_eq_getElem (by rw [HDS.out.1]; omega), ← hx]
            simp [List.getD, show i < ds.length by rw [HDS.out.1]; omega]
          have hco := OwnL.cell ho2 i x hgx
          have hKl := OwnL.lt ho2
          have HST := Lib.hid hst
          have hq' : q < 18446744073709551616 := by omega
          have hr' : r < 10000000000000000000 := by omega
          have HQ : Hid (q < 18446744073709551616 ∧ r < 10000000000000000000) := Lib.hid ⟨hq', hr'⟩
          have fi : (i : Int) < (n1 : Int) := by omega
          have f7 : IntKind.i64.wrap ((i : Int) - 1) = (i : Int) - 1 := IntWalk.i64_in _ ⟨by omega, by have := Hn1.out; omega⟩
          have HK := Lib.hid hk
          have Hgx := Lib.hid hgx
          clear hst hgx hlt hq hr hSe hx hrl hxl hq' hr' hk f1
          go_wp2_with fail
          refine (hDv _).mono ?_
          rintro e w3 ⟨rfl, hb⟩
          have hfo := OwnL.thaw (OwnL.later ho2 hb) i
          have hc3 := OwnL.cell (OwnL.later ho2 hb) i x Hgx.out
          have HO3 := Lib.hid (OwnL.store (OwnL.later ho2 hb) i q _ rfl)
          have HJ3 := Lib.hid (HJs.out _ _ _ i (.int .u64 (q : Int)) hKB.out (OwnL.cellsAt (OwnL.later ho2 hb)) (HJb.out _ _ _ hJ.out hb))
          clear hDv hb ho2 hco
          go_wp2_with fail
          go_roundw
          case rel => exact ⟨i, r, q :: qs, by have := HK.out; omega, by go_num, rfl, Lib.hid ⟨HQ.out.2, by have := hS.out.2.1; have := HK.out; simp; omega, Limbs.cons HQ.out.1 hS.out.2.2.1, HST.out.2⟩, Lib.hid (by rw [← HST.out.1]; exact HO3.out), HJ3⟩
          case measure => simp [intOf] <;> omega

set_option maxHeartbeats 1000000 in
theorem chunk1_zero (n l Bn : Nat) (J : World → Prop) (W : World) (a : Option Addr) (c : Nat) (hBn : W.cell? ⟨Bn, 0, none⟩ = some (.slice a 0 c))
    (hC : Calls Tryd.prog 71 #[.slice a 0 c] W fun e w' => ∃ b d, e = .returned (.slice b 0 d) ∧ Hid (J w')) :
    CallsIn Fence.wide n Tryd.prog 75 #[.func (.yield l) #[] #[], .pointer (some ⟨Bn, 0, none⟩)] W fun e W' => (∃ v, e = .returned v) ∧ J W' := by
  refine callsIn_of_wp Tryd.func75 rfl trivial ?_ rfl
  refine wpIn_wide.2 ?_
  simp only [Tryd.ntmps75, List.size_toArray, List.length_cons, List.length_nil, Nat.reduceAdd, Nat.reduceSub, Array.replicate_succ, Array.replicate_zero, List.push_toArray, List.append_toArray, List.nil_append, List.cons_append]
  go_wp2_with fail
  refine hC.mono ?_
  rintro e w1 ⟨b, d, rfl, hJ⟩
  clear hC
  go_wp2_with fail
  go_loopw [3] (fun v3 wr => v3 = .slice b 0 d ∧ Hid (J wr)) (fun _ _ => 0)
  case atStart => exact ⟨rfl, hJ⟩
  case round =>
    clear hJ
    obtain ⟨rfl, hJ⟩ := hrel
    go_wp2_with fail
    go_end0
    exact ⟨⟨_, rfl⟩, hJ.out⟩
theorem chunks_stops (n Bn V N : Nat) (hn : 2 ≤ n) (hN : (chunksN V).length ≤ N) (hV : (limbs V).length ≤ 10000) (w : World) (a : Option Addr) (c : Nat) (hA : Arr w a c (limbs V)) (hBn : w.cell? ⟨Bn, 0, none⟩ = some (.slice a (limbs V).length c)) :
    SeqStopsM Fence.wide n Tryd.prog 75 #[.pointer (some ⟨Bn, 0, none⟩)] (fun x : Nat => #[.int .u64 (x : Int)]) 36 (fun x => x < 10000000000000000000) (fun ys => ys = chunksN V) N w := fun l J W hW hJb hJs hY h0 => by
  have hA' := hA.below hW
  have hc' : W.cell? ⟨Bn, 0, none⟩ = some (.slice a (limbs V).length c) := cell_keep hW _ _ hBn
  have hCl := clone_any a c (limbs V) W hA' (by omega)
  by_cases hV0 : V = 0
  · subst hV0
    rw [limbs_zero] at hc' hCl
    refine (chunk1_zero n l Bn (fun W' => J [] W') W a c hc' (hCl.mono ?_)).mono ?_
    · rintro e w' ⟨v, rfl, ho, hb⟩
      obtain ⟨b, d, rfl⟩ := OwnL.shape ho
      exact ⟨b, d, rfl, Lib.hid (hJb _ _ _ h0 hb)⟩
    · rintro e w' ⟨h1, h2⟩
      exact ⟨h1, [], by rw [chunksN_zero], h2⟩
  · have hp : 0 < (limbs V).length := by
      apply Nat.pos_of_ne_zero
      intro h
      have := congrArg valL (List.eq_nil_of_length_eq_zero h)
      rw [valL_limbs] at this
      exact hV0 this
    refine (chunk1_in n l Bn W.heap.size V N hn J hJb hJs hY hN hV W a c _ rfl hc' (hCl.mono ?_)).mono ?_
    · rintro e w' ⟨v, rfl, ho, hb⟩
      obtain ⟨g, cap, rfl, hg, _⟩ := OwnL.pos ho hp
      exact ⟨g, cap, rfl, Lib.hid ho, Lib.hid hg, Lib.hid (hJb _ _ _ h0 hb)⟩
    · rintro e w' ⟨h1, h2⟩
      exact ⟨h1, _, rfl, h2⟩
end Go.Proofs.YtjfjkabmpiebpaaDoor
