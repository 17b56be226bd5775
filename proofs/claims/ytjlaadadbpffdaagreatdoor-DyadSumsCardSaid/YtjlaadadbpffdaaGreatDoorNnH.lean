/-
  NatBh, NatBi, NatBl: as one text.
-/
import Derived.Test.YtjlaadadbpffdaaGreatDoorNnB
import Derived.Deep.Cut
set_option linter.unusedSimpArgs false
set_option linter.unusedVariables false
namespace Go.Plumb
theorem chunk_step (ds qs : List Nat) (k i x rest : Nat) (hk : k ≤ ds.length) (hi : k = i + 1) (hq : qs.length = ds.length - k) (hx : ds.getD i 0 = x) (hv : valL (ds.drop k) = 10000000000000000000 * valL qs + rest) :
    (ds.take k ++ qs).set i ((rest * 18446744073709551616 + x) / 10000000000000000000) = ds.take i ++ ((rest * 18446744073709551616 + x) / 10000000000000000000 :: qs) ∧ valL (ds.drop i) = 10000000000000000000 * valL ((rest * 18446744073709551616 + x) / 10000000000000000000 :: qs) + (rest * 18446744073709551616 + x) % 10000000000000000000 := by
  subst hi
  have hlt : i < ds.length := by omega
  have hxi : ds[i] = x := by rw [← hx]; simp [List.getD, hlt]
  constructor
  · rw [List.take_succ_eq_append_getElem hlt, List.append_assoc, List.set_append_right _ _ (by simp; omega)]
    simp [List.length_take, Nat.min_eq_left (Nat.le_of_lt hlt)]
  · rw [List.drop_eq_getElem_cons hlt, hxi]
    simp only [valL, hv]
    omega
end Go.Plumb
namespace Go.Proofs.YtjlaadadbpffdaaGreatDoor
open Go.RowKit Go.Plumb

set_option maxHeartbeats 1000000 in
theorem chunks_make (a : Option Addr) (n c : Nat) (w : World) :
    Calls Tryz.prog 174 #[.slice a n c] w fun e w' => e = .returned (.func (.func 178) #[] #[.pointer (some ⟨w.heap.size, 0, none⟩)]) ∧ w' = w.alloc (.cells #[.slice a n c] 22) := by
  go_enter Tryz.func174, Tryz.ntmps174
  go_wp2_with fail
  go_ret
  exact ⟨rfl, rfl⟩

theorem OwnL.keptCells {w w' : World} {B K n c : Nat} {l : List Nat} (h : OwnL w B (.slice (some ⟨K, 0, none⟩) n c) l) (hk : KeptCells K w w') : OwnL w' B (.slice (some ⟨K, 0, none⟩) n c) l := by
  obtain ⟨hx, ⟨hn, _⟩ | ⟨g, cap, cur, e, hg, hh, rest⟩⟩ := h
  · simp at hn
  · simp only [Value.slice.injEq, Option.some.injEq, Addr.mk.injEq] at e
    obtain ⟨⟨rfl, _⟩, rfl, rfl⟩ := e
    exact ⟨hx, .inr ⟨_, _, cur, rfl, hg, hk.2 _ hh rfl, rest⟩⟩
theorem OwnL.cellsAt {w : World} {B K n c : Nat} {l : List Nat} (h : OwnL w B (.slice (some ⟨K, 0, none⟩) n c) l) : CellsAt 31 K w := by
  obtain ⟨hx, ⟨hn, _⟩ | ⟨g, cap, cur, e, hg, hh, rest⟩⟩ := h
  · simp at hn
  · simp only [Value.slice.injEq, Option.some.injEq, Addr.mk.injEq] at e
    obtain ⟨⟨rfl, _⟩, rfl, rfl⟩ := e
    exact ⟨_, _, hh⟩
set_option maxRecDepth 20000 in
set_option maxHeartbeats 1000000 in
theorem chunk1_in (n l Bn B V N : Nat) (hn : 2 ≤ n) (J : List Nat → World → Prop)
    (hJb : ∀ pre W1 W2, J pre W1 → Below W1.heap.size W1 W2 → J pre W2) (hJs : ∀ K pre W1 i v, B ≤ K → CellsAt 31 K W1 → J pre W1 → J pre (W1.setCell ⟨K, i, none⟩ v))
    (hY : ∀ K (pre : List Nat) (x : Nat) W1, x < 10000000000000000000 → B ≤ K → CellsAt 31 K W1 → J pre W1 → pre.length < N → YieldAt Fence.wide (n - 1) Tryz.prog l #[.int .u64 (x : Int)] W1 fun e W' => e = .returned (.bool true) ∧ J (pre ++ [x]) W' ∧ KeptCells K W1 W')
    (hN : (chunksN V).length ≤ N) (hV : (limbs V).length ≤ 10000)
    (W : World) (a : Option Addr) (c m : Nat) (hm : (limbs V).length = m) (hBn : W.cell? ⟨Bn, 0, none⟩ = some (.slice a m c))
    (hC : Calls Tryz.prog 160 #[.slice a m c] W fun e w' => ∃ K cap, e = .returned (.slice (some ⟨K, 0, none⟩) m cap) ∧ Hid (OwnL w' B (.slice (some ⟨K, 0, none⟩) m cap) (limbs V)) ∧ Hid (B ≤ K) ∧ Hid (J [] w')) :
    CallsIn Fence.wide n Tryz.prog 178 #[.func (.yield l) #[] #[], .pointer (some ⟨Bn, 0, none⟩)] W fun e W' => (∃ v, e = .returned v) ∧ J (chunksN V) W' := by
  have HN := Lib.hid hN
  have HV := Lib.hid hV
  have Hm := Lib.hid hm
  have HJb := Lib.hid hJb
  have HJs := Lib.hid hJs
  clear hN hV hm hJb hJs
  refine callsIn_of_wp Tryz.func178 rfl trivial ?_ rfl
  refine wpIn_wide.2 ?_
  simp only [Tryz.ntmps178, List.size_toArray, List.length_cons, List.length_nil, Nat.reduceAdd, Nat.reduceSub, Array.replicate_succ, Array.replicate_zero, List.push_toArray, List.append_toArray, List.nil_append, List.cons_append]
  go_wp2_with fail
  refine hC.mono ?_
  rintro e w1 ⟨K, cap, rfl, hO, hKB, hJ⟩
  clear hC
  go_wp2_with fail
  go_loopg [3] V (fun g v3 wr => ∃ (n1 : Nat) (pre : List Nat), v3 = .slice (some ⟨K, 0, none⟩) n1 cap ∧ Hid (n1 = (limbs g).length ∧ pre ++ chunksN g = chunksN V ∧ g ≤ V) ∧ Hid (OwnL wr B (.slice (some ⟨K, 0, none⟩) n1 cap) (limbs g)) ∧ Hid (J pre wr))
  case atStart => exact ⟨m, [], rfl, Lib.hid ⟨Hm.out.symm, rfl, Nat.le_refl _⟩, hO, hJ⟩
  case round =>
    clear hO hJ
    obtain ⟨n1, pre, rfl, hD, hown, hJ⟩ := hrel
    by_cases hg : gk = 0
    · have hx0 : n1 = 0 := by rw [hD.out.1, hg, limbs_zero]; rfl
      subst hx0
      have hpre : Hid (pre = chunksN V) := Lib.hid (by have := hD.out.2.1; rw [hg, chunksN_zero, List.append_nil] at this; exact this)
      clear hg
      go_wp2_with fail
      go_end0
      exact ⟨⟨_, rfl⟩, by rw [← hpre.out]; exact hJ.out⟩
    · have hn0 : 0 < n1 := by
        rw [hD.out.1]
        apply Nat.pos_of_ne_zero
        intro h
        have := congrArg valL (List.eq_nil_of_length_eq_zero h)
        rw [valL_limbs] at this
        exact hg this
      have hn1 : n1 ≤ 10000 := by rw [hD.out.1]; exact Nat.le_trans (length_mono hD.out.2.2) HV.out
      have Hg := Lib.hid hg
      have Hn1 := Lib.hid hn1
      obtain ⟨ds, hds⟩ : ∃ ds, limbs gk = ds := ⟨_, rfl⟩
      have HDS : Hid (ds.length = n1 ∧ valL ds = gk ∧ Limbs ds) := Lib.hid ⟨by rw [← hds]; exact hD.out.1.symm, by rw [← hds, valL_limbs], by rw [← hds]; exact limbs_limbs _⟩
      rw [hds] at hown
      clear hg hds
      have f1 : IntKind.i64.wrap ((n1 : Int) - 1) = (n1 : Int) - 1 := IntWalk.i64_in _ ⟨by omega, by omega⟩
      clear hn1
      go_wp2_with fail
      go_loopw [4, 5] (fun u v wx => ∃ (k rest : Nat) (qs : List Nat), k ≤ n1 ∧ v = .int .i64 ((k : Int) - 1) ∧ u = .int .u64 (rest : Int) ∧ Hid (rest < 10000000000000000000 ∧ qs.length = n1 - k ∧ Limbs qs ∧ valL (ds.drop k) = 10000000000000000000 * valL qs + rest) ∧ Hid (OwnL wx B (.slice (some ⟨K, 0, none⟩) n1 cap) (ds.take k ++ qs)) ∧ Hid (J pre wx)) (fun _ v _ => (intOf v + 1).toNat)
      case atStart => exact ⟨n1, 0, [], Nat.le_refl _, rfl, rfl, Lib.hid ⟨by decide, by simp, Limbs.nil, by rw [List.drop_of_length_le (by rw [HDS.out.1]; exact Nat.le_refl _)]; rfl⟩, Lib.hid (by rw [List.take_of_length_le (show ds.length ≤ n1 by rw [HDS.out.1]; exact Nat.le_refl _), List.append_nil]; exact hown.out), hJ⟩
      case round =>
        clear hJ hown
        obtain ⟨k, rest, qs, hk, rfl, rfl, hS, hown, hJ⟩ := hrel
        by_cases hz : k = 0
        · subst hz
          have hqn : qs.length = n1 := by have := hS.out.2.1; omega
          have ho2 := hown.out
          rw [List.take_zero, List.nil_append] at ho2
          have hv := hS.out.2.2.2
          rw [List.drop_zero, HDS.out.2.1] at hv
          have hrl := hS.out.1
          obtain ⟨q, hq⟩ : ∃ q, gk / 10000000000000000000 = q := ⟨_, rfl⟩
          have HR : Hid (chunksN gk = rest :: chunksN q ∧ valL qs = q ∧ q < gk) := Lib.hid ⟨by rw [chunksN_pos Hg.out, hq]; congr 1; omega, by omega, by have := Hg.out; omega⟩
          have hlen : pre.length < N := by
            have := congrArg List.length hD.out.2.1
            rw [List.length_append, HR.out.1, List.length_cons] at this
            have := HN.out; omega
          obtain ⟨fn, tmps, assign, body, hy, hR⟩ := hY K pre rest wr hrl hKB.out (OwnL.cellsAt ho2) hJ.out hlen
          have HO2 := Lib.hid ho2
          have HLQ := Lib.hid hS.out.2.2.1
          have HQN := Lib.hid hqn
          clear hq hv hrl hlen hqn ho2 f1 hk
          go_upto_region 8 with (fail)
          refine (wpIn_wide (n := n)).1 ?_
          gi_wp2
          refine ⟨fun _ => by omega, hR.mono ?_⟩
          rintro e w3 ⟨rfl, hJ3, hk3⟩
          have hO4 := OwnL.keptCells HO2.out hk3
          obtain ⟨hA4, hn4⟩ : Arr w3 (some ⟨K, 0, none⟩) cap qs ∧ qs.length = n1 := ⟨OwnL.arr' hO4 HLQ.out, HQN.out⟩
          have hT := trim_any (some ⟨K, 0, none⟩) cap qs w3 hA4
          obtain ⟨n2, hn2⟩ : ∃ n2, (limbs q).length = n2 := ⟨_, rfl⟩
          rw [hn4, HR.out.2.1, hn2] at hT
          have Hn2 := Lib.hid hn2
          have HO4 := Lib.hid hO4
          have HA4 := Lib.hid hA4
          have HJ3 := Lib.hid hJ3
          clear hO4 hA4 hn4 hn2 hJ3 hk3 hR
          gi_wp2
          go_wp2_with fail
          refine hT.mono ?_
          rintro e w4 ⟨rfl, rfl⟩
          clear hT
          go_wp2_with fail
          go_roundg q
          case rel =>
            refine ⟨n2, pre ++ [rest], rfl, Lib.hid ⟨Hn2.out.symm, by rw [← hD.out.2.1, HR.out.1, List.append_assoc]; rfl, by have := HR.out.2.2; have := hD.out.2.2; omega⟩, Lib.hid ?_, HJ3⟩
            have hn := Arr.norm_take HA4.out
            rw [HR.out.2.1] at hn
            have h2 := HO4.out
            rw [← HQN.out] at h2
            have h3 := OwnL.take_of h2 hn
            rw [hn, Hn2.out] at h3
            exact h3
          case measure => exact HR.out.2.2
        · obtain ⟨i, rfl⟩ : ∃ i, k = i + 1 := ⟨k - 1, by omega⟩
          obtain ⟨x, hx⟩ : ∃ x, ds.getD i 0 = x := ⟨_, rfl⟩
          have hxl : x < 18446744073709551616 := by rw [← hx]; exact HDS.out.2.2.get i
          have hrl := hS.out.1
          have hst := chunk_step ds qs (i + 1) i x rest (by rw [HDS.out.1]; exact hk) rfl (by rw [HDS.out.1]; exact hS.out.2.1) hx hS.out.2.2.2
          have hDv := fun wz => div64_any rest x 10000000000000000000 wz hrl hxl (by decide) (by decide)
          obtain ⟨S, hSe⟩ : ∃ S, rest * 18446744073709551616 + x = S := ⟨_, rfl⟩
          obtain ⟨q, hq⟩ : ∃ q, S / 10000000000000000000 = q := ⟨_, rfl⟩
          obtain ⟨r, hr⟩ : ∃ r, S % 10000000000000000000 = r := ⟨_, rfl⟩
          simp only [hSe, hq, hr] at hDv
          rw [hSe, hq, hr] at hst
          have hlt : i < (ds.take (i + 1) ++ qs).length := by rw [List.length_append, List.length_take, HDS.out.1]; omega
          have ho2 := hown.out
          have hgx : (ds.take (i + 1) ++ qs)[i]? = some x := by
            rw [List.getElem?_append_left (by rw [List.length_take, HDS.out.1]; omega), List.getElem?_take_of_lt (by omega), List.getElem?_eq_getElem (by rw [HDS.out.1]; omega), ← hx]
            simp [List.getD, show i < ds.length by rw [HDS.out.1]; omega]
          have hco := OwnL.cell ho2 i x hgx
          have hKl := OwnL.lt ho2
          have HST := Lib.hid hst
          have hq' : q < 18446744073709551616 := by omega
          have hr' : r < 10000000000000000000 := by omega
          have HQ : Hid (q < 18446744073709551616 ∧ r < 10000000000000000000) := Lib.hid ⟨hq', hr'⟩
          have fi : (i : Int) < (n1 : Int) := by omega
          have f7 : IntKind.i64.wrap ((i : Int) - 1) = (i : Int) - 1 := IntWalk.i64_in _ ⟨by omega, by have := Hn1.out; omega⟩
          have HK := Lib.hid hk
          have Hgx := Lib.hid hgx
          clear hst hgx hlt hq hr hSe hx hrl hxl hq' hr' hk f1
          go_wp2_with fail
          refine (hDv _).mono ?_
          rintro e w3 ⟨rfl, hb⟩
          have hfo := OwnL.thaw (OwnL.later ho2 hb) i
          have hc3 := OwnL.cell (OwnL.later ho2 hb) i x Hgx.out
          have HO3 := Lib.hid (OwnL.store (OwnL.later ho2 hb) i q _ rfl)
          have HJ3 := Lib.hid (HJs.out _ _ _ i (.int .u64 (q : Int)) hKB.out (OwnL.cellsAt (OwnL.later ho2 hb)) (HJb.out _ _ _ hJ.out hb))
          clear hDv hb ho2 hco
          go_wp2_with fail
          go_roundw
          case rel => exact ⟨i, r, q :: qs, by have := HK.out; omega, by go_num, rfl, Lib.hid ⟨HQ.out.2, by have := hS.out.2.1; have := HK.out; simp; omega, Limbs.cons HQ.out.1 hS.out.2.2.1, HST.out.2⟩, Lib.hid (by rw [← HST.out.1]; exact HO3.out), HJ3⟩
          case measure => simp [intOf] <;> omega

set_option maxHeartbeats 1000000 in
theorem chunk1_zero (n l Bn : Nat) (J : World → Prop) (W : World) (a : Option Addr) (c : Nat) (hBn : W.cell? ⟨Bn, 0, none⟩ = some (.slice a 0 c))
    (hC : Calls Tryz.prog 160 #[.slice a 0 c] W fun e w' => ∃ b d, e = .returned (.slice b 0 d) ∧ Hid (J w')) :
    CallsIn Fence.wide n Tryz.prog 178 #[.func (.yield l) #[] #[], .pointer (some ⟨Bn, 0, none⟩)] W fun e W' => (∃ v, e = .returned v) ∧ J W' := by
  refine callsIn_of_wp Tryz.func178 rfl trivial ?_ rfl
  refine wpIn_wide.2 ?_
  simp only [Tryz.ntmps178, List.size_toArray, List.length_cons, List.length_nil, Nat.reduceAdd, Nat.reduceSub, Array.replicate_succ, Array.replicate_zero, List.push_toArray, List.append_toArray, List.nil_append, List.cons_append]
  go_wp2_with fail
  refine hC.mono ?_
  rintro e w1 ⟨b, d, rfl, hJ⟩
  clear hC
  go_wp2_with fail
  go_loopw [3] (fun v3 wr => v3 = .slice b 0 d ∧ Hid (J wr)) (fun _ _ => 0)
  case atStart => exact ⟨rfl, hJ⟩
  case round =>
    clear hJ
    obtain ⟨rfl, hJ⟩ := hrel
    go_wp2_with fail
    go_end0
    exact ⟨⟨_, rfl⟩, hJ.out⟩
theorem chunks_stops (n Bn V N : Nat) (hn : 2 ≤ n) (hN : (chunksN V).length ≤ N) (hV : (limbs V).length ≤ 10000) (w : World) (a : Option Addr) (c : Nat) (hA : Arr w a c (limbs V)) (hBn : w.cell? ⟨Bn, 0, none⟩ = some (.slice a (limbs V).length c)) :
    SeqStopsM Fence.wide n Tryz.prog 178 #[.pointer (some ⟨Bn, 0, none⟩)] (fun x : Nat => #[.int .u64 (x : Int)]) 31 (fun x => x < 10000000000000000000) (fun ys => ys = chunksN V) N w := fun l J W hW hJb hJs hY h0 => by
  have hA' := hA.below hW
  have hc' : W.cell? ⟨Bn, 0, none⟩ = some (.slice a (limbs V).length c) := cell_keep hW _ _ hBn
  have hCl := clone_any a c (limbs V) W hA' (by omega)
  by_cases hV0 : V = 0
  · subst hV0
    rw [limbs_zero] at hc' hCl
    refine (chunk1_zero n l Bn (fun W' => J [] W') W a c hc' (hCl.mono ?_)).mono ?_
    · rintro e w' ⟨v, rfl, ho, hb⟩
      obtain ⟨b, d, rfl⟩ := OwnL.shape ho
      exact ⟨b, d, rfl, Lib.hid (hJb _ _ _ h0 hb)⟩
    · rintro e w' ⟨h1, h2⟩
      exact ⟨h1, [], by rw [chunksN_zero], h2⟩
  · have hp : 0 < (limbs V).length := by
      apply Nat.pos_of_ne_zero
      intro h
      have := congrArg valL (List.eq_nil_of_length_eq_zero h)
      rw [valL_limbs] at this
      exact hV0 this
    refine (chunk1_in n l Bn W.heap.size V N hn J hJb hJs hY hN hV W a c _ rfl hc' (hCl.mono ?_)).mono ?_
    · rintro e w' ⟨v, rfl, ho, hb⟩
      obtain ⟨g, cap, rfl, hg, _⟩ := OwnL.pos ho hp
      exact ⟨g, cap, rfl, Lib.hid ho, Lib.hid hg, Lib.hid (hJb _ _ _ h0 hb)⟩
    · rintro e w' ⟨h1, h2⟩
      exact ⟨h1, _, rfl, h2⟩
end Go.Proofs.YtjlaadadbpffdaaGreatDoor

namespace Go.Proofs.YtjlaadadbpffdaaGreatDoor
open Go.RowKit Go.Plumb

attribute [local go_sem] Oper.semAt_some

def bytesOf (pre : List Nat) : List UInt8 := pre.flatMap (padD 19)
theorem bytesOf_snoc (pre : List Nat) (x : Nat) : bytesOf (pre ++ [x]) = chunkAt (bytesOf pre) x 19 := by
  unfold bytesOf chunkAt; rw [List.flatMap_append]; simp
theorem bytesOf_length (pre : List Nat) : (bytesOf pre).length = 19 * pre.length := by
  induction pre with
  | nil => rfl
  | cons x l ih => unfold bytesOf at *; rw [List.flatMap_cons, List.length_append, padD_length, ih, List.length_cons]; omega
theorem limit_chunks (V : Nat) (M : Nat) (h : (limbs V).length ≤ M) : (chunksN V).length ≤ 20 * M :=
  chunks_length _ _ (Nat.lt_of_lt_of_le (lt_pow_length V) (Nat.le_trans (ten_pow _) (Nat.pow_le_pow_right (by decide) (Nat.mul_le_mul_left _ h))))
def TextI (k B : Nat) (w : World) (pre : List Nat) (W : World) : Prop := (∃ v, Boxed W B 165 v ∧ W.ownsRow k 5 1 v (bytesOf pre).length ((bytesOf pre).map byteV) ∧ True) ∧ Below k w W
theorem TextI_own (k B : Nat) (w : World) (hk : k ≤ w.heap.size) (B0 : Nat) (hB0 : k ≤ B0) : OwnFrom B0 (TextI k B w) :=
  OwnFrom.and (Own.from (holdsRow_own k B 165 5 1 (fun pre => (bytesOf pre).length) (fun pre => (bytesOf pre).map byteV) (fun _ _ => True)) _) (ownFrom_below hk hB0)
theorem TextI_store {k B : Nat} {w : World} {K i : Nat} {pre : List Nat} {W : World} {v : Value} (hkK : k ≤ K) (hBK : B ≠ K) (hc : CellsAt 31 K W) (h : TextI k B w pre W) : TextI k B w pre (W.setCell ⟨K, i, none⟩ v) := by
  obtain ⟨⟨u, hb, hr, _⟩, hw⟩ := h
  exact ⟨⟨u, hb.kept (grownBy_setCellAt W K i v) (by simp; exact hBK), hr.kept (grownBy_setCellAt W K i v) (.inr (hc.not_row (by decide) hr).symm), trivial⟩, hw.setCell (p := ⟨K, i, none⟩) hkK v⟩
theorem kept_append {W w1 : World} {K B : Nat} {tmp : Obj} {v v' : Value} (hne : some K ≠ v.ownBlock) (hBK : B ≠ K) (hK : K < W.heap.size) (hgrow : (W.alloc tmp).grownBy w1 v.ownBlock) : KeptCells K W (w1.setCell ⟨B, 0, none⟩ v') := by
  have h1 : (W.alloc tmp).heap[K]? = W.heap[K]? := Below.heap_alloc W _ _ hK
  have h2 := hgrow.block K (by simp; omega) hne
  have h3 : (w1.setCell ⟨B, 0, none⟩ v').heap[K]? = w1.heap[K]? := Below.heap_setCell _ _ _ K (fun e => hBK e.symm)
  refine ⟨?_, fun o ho _ => by rw [h3, h2, h1]; exact ho⟩
  have a := hgrow.size
  have b := (KeepsWalks.setCell w1 ⟨B, 0, none⟩ v').size
  simp at a
  omega
set_option maxRecDepth 20000 in
set_option maxHeartbeats 1000000 in
theorem Text_any (a : Option Addr) (c : Nat) (l : List Nat) (w : World) (hA : Arr w a c l) (hl : (limbs (valL l)).length ≤ 1000) :
    Calls Tryz.prog 170 #[.slice a l.length c] w fun e w' => e = .returned (.tuple #[.string ⟨(textN (valL l)).toArray⟩, .int .i64 0]) ∧ Below w.heap.size w w' := by
  obtain ⟨i0, hi0, hz0, hz1, hz2⟩ := info_parts info_u8
  have hO := open1_in a c l w hA (by omega)
  have HA := Lib.hid hA.norm
  obtain ⟨V, hV⟩ : ∃ V, valL l = V := ⟨_, rfl⟩
  have HV : Hid ((chunksN V).length ≤ 20000 ∧ (limbs V).length ≤ 10000) := Lib.hid (by rw [← hV]; exact ⟨limit_chunks _ 1000 hl, by omega⟩)
  rw [hV] at hO HA hl ⊢
  obtain ⟨m, hm⟩ : ∃ m, (limbs V).length = m := ⟨_, rfl⟩
  rw [hm] at hO hl
  have Hm := Lib.hid hm
  clear hA hV hm
  refine (callsIn_wide (n := 10)).1 ?_
  refine callsIn_of_wp_marks Tryz.func170 rfl trivial ?_ rfl
  refine wpIn_wide.2 ?_
  simp only [Tryz.ntmps170, List.size_toArray, List.length_cons, List.length_nil, Nat.reduceAdd, Nat.reduceSub, Array.replicate_succ, Array.replicate_zero, List.push_toArray, List.append_toArray, List.nil_append, List.cons_append]
  go_wp2_with fail
  refine hO.mono ?_
  rintro e w' ⟨rfl, rfl⟩
  clear hO
  go_wp2_with fail
  refine (chunks_make _ _ _ _).mono ?_
  rintro e w' ⟨rfl, rfl⟩
  have hB0 : Below w.heap.size w ((((w.alloc (.cells #[.slice a m c] 22)).alloc (.cells #[.pointer (some ⟨w.heap.size, 0, none⟩)] 135)).alloc (.cells #[.slice none 0 0] 165)).alloc (.cells #[.slice a m c] 22)) := by (repeat' (first | exact Below.refl _ _ | assumption | (refine below_alloc ?_ _) | (refine Below.setCell ?_ ?_ _) | (refine Below.drew ?_) | (refine below_drewN ?_ _))) <;> (first | (simp; done) | (simp; omega) | omega)
  have hBx0 : Boxed ((((w.alloc (.cells #[.slice a m c] 22)).alloc (.cells #[.pointer (some ⟨w.heap.size, 0, none⟩)] 135)).alloc (.cells #[.slice none 0 0] 165)).alloc (.cells #[.slice a m c] 22)) (w.heap.size + 1 + 1) 165 (.slice none 0 0) := by
    have := (Boxed.new ((w.alloc (.cells #[.slice a m c] 22)).alloc (.cells #[.pointer (some ⟨w.heap.size, 0, none⟩)] 135)) 165 (.slice none 0 0)).alloc (.cells #[.slice a m c] 22)
    simpa using this
  have hcN : ((((w.alloc (.cells #[.slice a m c] 22)).alloc (.cells #[.pointer (some ⟨w.heap.size, 0, none⟩)] 135)).alloc (.cells #[.slice none 0 0] 165)).alloc (.cells #[.slice a m c] 22)).cell? ⟨w.heap.size + 1 + 1 + 1, 0, none⟩ = some (.slice a (limbs V).length c) := by
    rw [Hm.out]
    exact cell_newg (by simp)
  have hsz : ((((w.alloc (.cells #[.slice a m c] 22)).alloc (.cells #[.pointer (some ⟨w.heap.size, 0, none⟩)] 135)).alloc (.cells #[.slice none 0 0] 165)).alloc (.cells #[.slice a m c] 22)).heap.size = w.heap.size + 4 := by simp
  go_wp2_with fail
  obtain ⟨W0, hW0⟩ : ∃ W0, ((((w.alloc (.cells #[.slice a m c] 22)).alloc (.cells #[.pointer (some ⟨w.heap.size, 0, none⟩)] 135)).alloc (.cells #[.slice none 0 0] 165)).alloc (.cells #[.slice a m c] 22)) = W0 := ⟨_, rfl⟩
  rw [hW0] at hB0 hBx0 hcN hsz ⊢
  clear hW0
  have hN := HV.out.1
  refine (wpIn_wide (n := 10)).1 ?_
  refine wpIn_rangeFunc_ownM rfl (by decide) (gf := 178) (lb := #[.pointer (some ⟨w.heap.size + 1 + 1 + 1, 0, none⟩)]) rfl trivial (enters_of Tryz.func178 (by kernel_rfl) rfl)
    (chunks_stops _ (w.heap.size + 1 + 1 + 1) V 20000 (by decide) hN HV.out.2 W0 a c (HA.out.below hB0) hcN) (Below.refl _ _) (fun _ => rfl)
    (TextI w.heap.size (w.heap.size + 1 + 1) w) (TextI_own _ _ _ (Nat.le_refl _) _ (by omega)) (fun K pre W1 i v hK hc h => TextI_store (by omega) (by omega) hc h) ⟨⟨_, hBx0, World.ownsRow_nil _ _ _ _, trivial⟩, hB0⟩
    ?a1 ?assign ?body ?done
  case assign =>
    intro l x W K hK
    gi_wp2
    exact hK
  case body =>
    rintro l K pre x W hx ⟨⟨v, hv, hrow, _⟩, hB⟩ hCK hK hlen
    have HX := Lib.hid hx
    have HpL := bytesOf_length pre
    have HBX := Lib.hid (And.intro hv (And.intro hrow hB))
    have HCK := Lib.hid hCK
    have hKB : w.heap.size + 1 + 1 ≠ K := by omega
    obtain ⟨bs, hbs⟩ : ∃ bs, bytesOf pre = bs := ⟨_, rfl⟩
    have Hbs := Lib.hid hbs
    rw [hbs] at HpL HBX
    have HL : Hid (bs.length ≤ 400000) := Lib.hid (by omega)
    clear hv hrow hB hCK hbs HpL hK hx
    gi_wp2
    gi_loopw [6, 16] (fun v6 v16 wr => ∃ (i : Nat) (u : Value), i ≤ 19 ∧ v16 = .int .i64 (i : Int) ∧ v6 = .int .u64 ((x / 10 ^ i : Nat) : Int) ∧ Hid (Boxed wr (w.heap.size + 1 + 1) 165 u) ∧ Hid (OwnB wr w.heap.size u (chunkAt bs x i)) ∧ Hid (KeepsFrom W0.heap.size W wr ∧ KeptCells K W wr ∧ Below w.heap.size w wr)) (fun _ v16 _ => (19 - intOf v16).toNat)
    case atStart => exact ⟨0, v, by decide, rfl, by simp, Lib.hid HBX.out.1, Lib.hid (by rw [chunkAt_zero]; exact HBX.out.2.1), Lib.hid ⟨KeepsFrom.refl _ _, ⟨Nat.le_refl _, fun o h _ => h⟩, HBX.out.2.2⟩⟩
    case round =>
      obtain ⟨i, u, hi, rfl, rfl, hbx, hro, hks⟩ := hrel
      by_cases hlt : i < 19
      · obtain ⟨y, hy⟩ : ∃ y, x / 10 ^ i = y := ⟨_, rfl⟩
        obtain ⟨q, hq⟩ : ∃ q, y / 10 = q := ⟨_, rfl⟩
        obtain ⟨r, hr⟩ : ∃ r, y % 10 = r := ⟨_, rfl⟩
        have HY : Hid (x / 10 ^ i % 10 = r ∧ x / 10 ^ (i + 1) = q) := Lib.hid ⟨by rw [hy, hr], by rw [Nat.pow_succ, ← Nat.div_div_eq_div_mul, hy, hq]⟩
        rw [hy]
        have hv := hbx.out
        have hc := hv.cell
        have hlen2 : (chunkAt bs x i).length ≤ 400019 := by unfold chunkAt; rw [List.length_append, padD_length]; have := HL.out; omega
        obtain ⟨cs, hcs⟩ : ∃ cs, chunkAt bs x i = cs := ⟨_, rfl⟩
        have Hcs := Lib.hid hcs
        have hrow : wr.ownsRow w.heap.size 5 1 u cs.length (cs.map byteV) := by rw [← hcs]; exact hro.out
        rw [hcs] at hlen2
        have hr10 : r < 10 := by omega
        have f4 : (y : Int).tmod 10 = (r : Int) := by rw [Int.tmod_eq_emod_of_nonneg (by omega)]; omega
        have f6 : (y : Int) % 10 = (r : Int) := by omega
        have f3 : (y : Int).tdiv 10 = (q : Int) := by rw [Int.tdiv_eq_ediv_of_nonneg (by omega)]; omega
        have f5 : (y : Int) / 10 = (q : Int) := by omega
        have f9 : IntKind.u64.wrap (q : Int) = (q : Int) := by
          have : x / 10 ^ i ≤ x := Nat.div_le_self _ _
          have := HX.out
          rw [IntKind.wrap_u64]; omega
        have f7 : IntKind.u64.wrap (48 + (r : Int)) = 48 + (r : Int) := by rw [IntKind.wrap_u64]; omega
        have f8 : IntKind.u8.wrap (48 + (r : Int)) = 48 + (r : Int) := by rw [IntKind.wrap_u8]; omega
        have hBw := hks.out.2.2.size
        have Hlen2 := Lib.hid hlen2
        have HR10 := Lib.hid hr10
        have hCK2 := HCK.out.kept hks.out.2.1
        have hneK := hCK2.not_row (by decide) hrow
        have hKlt := hCK2.lt
        clear hcs hq hr hy hr10 hlen2 hCK2
        gi_wp2_with (gi_at_builtin; refine wpListIn_append_own _ rfl _ _ 165 rfl w.heap.size 5 i0 (.int .u8 0) 1 1 Tryz.underlying165 hi0 hz0 hz1 hz2 rfl (by decide) _ _ _ rfl (hrow.alloc _) ⟨wr.heap.size, 0, none⟩ 1 1 [.int .u8 (48 + (r : Int))] rfl rfl (cell_one_new _ _ _) (by simp [Value.oneCell']) (by have := Hlen2.out; unfold maxLen; omega) (by have := Hlen2.out; omega) (by simp; omega) ?_; intro v' w1 hown' hgrow _; obtain ⟨g', cap', rfl⟩ := ownsRow_succ hown'; obtain ⟨hv1, hv2, hr2, hk2, hb2⟩ := hv.appended (by decide) hrow hBw (by omega) hown' hgrow; have hc1 := hv1.cell; have hf1 := hv1.frozen; have hkc := kept_append (v' := Value.slice (some ⟨g', 0, none⟩) (cs.length + 1) cap') hneK hKB hKlt hgrow; have HG := Lib.hid (And.intro hv2 (And.intro hr2 (And.intro hk2 (And.intro hb2 hkc)))); clear hv2 hr2 hk2 hb2 hkc)
        go_roundw
        case rel =>
          refine ⟨i + 1, _, by omega, by go_num, by first | rfl | rw [HY.out.2] | (rw [HY.out.2, f9]), Lib.hid HG.out.1, Lib.hid ?_, Lib.hid ⟨hks.out.1.trans (HG.out.2.2.1.from _), hks.out.2.1.trans HG.out.2.2.2.2, hks.out.2.2.trans HG.out.2.2.2.1⟩⟩
          rw [chunkAt_succ, Hcs.out, HY.out.1]
          unfold OwnB
          rw [List.length_append, List.map_append]
          have e : List.map byteV [digB r] = [Value.int .u8 (48 + (r : Int))] := by rw [← byteV_digB HR10.out]; rfl
          rw [e]
          exact HG.out.2.1
        case measure => simp [intOf]; omega
      · obtain rfl : i = 19 := by omega
        clear hi hlt
        gi_wp2
        refine ⟨hks.out.1, hks.out.2.1, ⟨u, hbx.out, ?_, trivial⟩, hks.out.2.2⟩
        rw [bytesOf_snoc, Hbs.out]
        exact hro.out
  case done =>
    rintro D ys W hD rfl ⟨⟨v, hv, hrow, _⟩, hB⟩ hK
    have hc := hv.cell
    obtain ⟨bs, hbs⟩ : ∃ bs, bytesOf (chunksN V) = bs := ⟨_, rfl⟩
    have Hbs := Lib.hid hbs
    have hlen : (bytesOf (chunksN V)).length ≤ 400000 := by rw [bytesOf_length]; omega
    rw [hbs] at hrow hlen
    have hRv := reverse_own w.heap.size v bs W hrow (by omega) hB.size
    have hvb := hv.not_row (by decide) hrow
    have hDb : some D ≠ v.ownBlock := fun e => by
      rcases hrow.2 with ⟨rfl, _⟩ | ⟨g, cap, cur, rfl, _, hgb, _⟩
      · simp [Value.ownBlock] at e
      · obtain rfl : D = g := by simpa [Value.ownBlock] using e
        rw [hgb] at hK; cases hK
    have HB := Lib.hid (And.intro hB (And.intro hv (And.intro hK (And.intro hvb (And.intro hDb hrow)))))
    clear hB hv hrow hbs hlen hK hvb hDb
    go_wp2_with fail
    refine hRv.mono ?_
    rintro e w3 ⟨rfl, ho3, hg3⟩
    have hc3 := (HB.out.2.1.kept hg3 HB.out.2.2.2.1).cell
    have hK3 := (hg3.block D (Array.getElem?_eq_some_iff.1 HB.out.2.2.1).1 HB.out.2.2.2.2.1).trans HB.out.2.2.1
    have hB3 : Below w.heap.size w w3 := HB.out.1.grown hg3 HB.out.1.size (fun q hq => (World.ownsRow.lt HB.out.2.2.2.2.2 q hq).1)
    have hconv := OwnB.text ho3
    have hTr := TrimLeft_one ⟨bs.reverse.toArray⟩ 48 (by decide) w3
    have HTX : Hid (Lib.trimLeftB bs.reverse 48 = (digs V).reverse) := Lib.hid (by rw [← Hbs.out]; exact chunks_text V)
    obtain ⟨t, ht⟩ : ∃ t, (digs V).reverse = t := ⟨_, rfl⟩
    have Ht := Lib.hid ht
    have e5 : (⟨bs.reverse.toArray⟩ : ByteArray).data.toList = bs.reverse := rfl
    rw [e5, HTX.out, ht] at hTr
    have HB3 := Lib.hid (And.intro hB3 (And.intro hK3 hD))
    clear hg3 hB3 hK3 hRv ht e5 ho3
    go_wp2_with fail
    refine hTr.mono ?_
    rintro e w4 ⟨rfl, rfl⟩
    clear hTr
    by_cases hV0 : V = 0
    · obtain rfl : t = [] := by rw [← Ht.out]; exact (digs_reverse_nil V).2 hV0
      have HTX0 : Hid (textN V = [48]) := Lib.hid (by unfold textN; rw [if_pos hV0])
      clear hV0
      go_wp2_with fail
      refine ⟨by simp, .inl ⟨_, _, rfl, run_takeDeferred HB3.out.2.1, ?_⟩⟩
      exact ⟨_, results_tmp2 rfl _ _ _, by rw [HTX0.out]; rfl, HB3.out.1.trans (belowK_b (w := w) (Nat.le_refl _) _ D _ _ (by have := HB3.out.2.2; omega) HB3.out.2.1 rfl rfl)⟩
    · have hne : t ≠ [] := fun h => hV0 ((digs_reverse_nil V).1 (by rw [Ht.out, h]))
      have hne2 : t.isEmpty = false := by simpa using hne
      have HTX0 : Hid (textN V = t) := Lib.hid (by unfold textN; rw [if_neg hV0, Ht.out])
      clear hV0 hne
      go_wp2_with fail
      refine ⟨by simp, .inl ⟨_, _, rfl, run_takeDeferred HB3.out.2.1, ?_⟩⟩
      exact ⟨_, results_tmp2 rfl _ _ _, by rw [HTX0.out]; rfl, HB3.out.1.trans (belowK_b (w := w) (Nat.le_refl _) _ D _ _ (by have := HB3.out.2.2; omega) HB3.out.2.1 rfl rfl)⟩
end Go.Proofs.YtjlaadadbpffdaaGreatDoor

namespace Go.Plumb
open Go.RowKit
/-- The slice a, of n elements, is the list l of limbs. -/
def Num (w : World) (a : Option Addr) (n c : Nat) (l : List Nat) : Prop := n = l.length ∧ Arr w a c l
theorem Num.below {w w' : World} {a : Option Addr} {n c : Nat} {l : List Nat} (h : Num w a n c l) (hb : Below w.heap.size w w') : Num w' a n c l := ⟨h.1, h.2.below hb⟩
theorem Num.limbs {w : World} {a : Option Addr} {n c : Nat} {l : List Nat} (h : Num w a n c l) : Limbs l := h.2.2.2.1
theorem Num.nil (w : World) : Num w none 0 0 [] := ⟨rfl, Arr.nil _ _ _ (by unfold maxLen; omega)⟩
/-- All the numbers that a walk has at hand. -/
def Nums (w : World) : List (Option Addr × Nat × Nat × List Nat) → Prop
  | [] => True
  | x :: L => Num w x.1 x.2.1 x.2.2.1 x.2.2.2 ∧ Nums w L
theorem Nums.below {w w' : World} {L : List (Option Addr × Nat × Nat × List Nat)} (hb : Below w.heap.size w w') : Nums w L → Nums w' L := by
  induction L with
  | nil => intro _; trivial
  | cons x L ih => rintro ⟨h1, h2⟩; exact ⟨h1.below hb, ih h2⟩
theorem Nums.get {w : World} {L : List (Option Addr × Nat × Nat × List Nat)} (h : Nums w L) (i : Nat) (a : Option Addr) (n c : Nat) (l : List Nat) (hi : L[i]? = some (a, n, c, l)) : Num w a n c l := by
  induction L generalizing i with
  | nil => simp at hi
  | cons x L ih =>
    cases i with
    | zero => simp at hi; subst hi; exact h.1
    | succ i => exact ih h.2 i (by simpa using hi)
/-- Where a walk stands: behind w, with its numbers. -/
def At (w wk : World) (L : List (Option Addr × Nat × Nat × List Nat)) : Prop := Below w.heap.size w wk ∧ Nums wk L
theorem At.start (w : World) : At w w [] := ⟨Below.refl _ _, trivial⟩
theorem At.later {w wk w' : World} {L : List (Option Addr × Nat × Nat × List Nat)} (h : At w wk L) (hb : Below wk.heap.size wk w') : At w w' L := ⟨below_step h.1 hb, h.2.below hb⟩
theorem At.call {w wk W w' : World} {L : List (Option Addr × Nat × Nat × List Nat)} (h : At w wk L) (h1 : Below wk.heap.size wk W) (hb : Below W.heap.size W w') : At w w' L := (h.later h1).later hb
theorem At.num {w wk W w' : World} {L : List (Option Addr × Nat × Nat × List Nat)} {a : Option Addr} {n c : Nat} {l : List Nat} (h : At w wk L) (h1 : Below wk.heap.size wk W) (hb : Below W.heap.size W w') (hn : Num w' a n c l) : At w w' ((a, n, c, l) :: L) := ⟨(h.call h1 hb).1, hn, (h.call h1 hb).2⟩
theorem At.get {w wk W : World} {L : List (Option Addr × Nat × Nat × List Nat)} (h : At w wk L) (i : Nat) {a : Option Addr} {n c : Nat} {l : List Nat} (hi : L[i]? = some (a, n, c, l)) (hb : Below wk.heap.size wk W) : Num W a n c l := (h.2.get i a n c l hi).below hb
theorem cell_old {W : World} {p : Addr} {v : Value} (o : Obj) (h : W.cell? p = some v) : (W.alloc o).cell? p = some v := by
  have hl := cell_lt h
  have := ((Below.refl _ W).alloc (Nat.le_refl _) o).cell (p := p) hl
  rw [this]; exact h
theorem num_one {W : World} {g x : Nat} {t : TypeId} (hg : g = W.heap.size) (hx : x < 18446744073709551616) : Num (W.alloc (.cells #[.int .u64 (x : Int)] t)) (some ⟨g, 0, none⟩) 1 1 [x] := by
  subst hg
  refine ⟨rfl, by simp, by unfold maxLen; omega, Limbs.cons hx Limbs.nil, fun j hj => ?_⟩
  have : j = 0 := by simpa using hj
  subst this
  exact ⟨W.heap.size, 0, rfl, World.cell?_alloc_at (hn := rfl) ..⟩
theorem num_two {W : World} {g x y : Nat} {t : TypeId} (hg : g = W.heap.size) (hx : x < 18446744073709551616) (hy : y < 18446744073709551616) : Num (W.alloc (.cells #[.int .u64 (x : Int), .int .u64 (y : Int)] t)) (some ⟨g, 0, none⟩) 2 2 [x, y] := by
  subst hg
  refine ⟨rfl, by simp, by unfold maxLen; omega, Limbs.cons hx (Limbs.cons hy Limbs.nil), fun j hj => ?_⟩
  have : j = 0 ∨ j = 1 := by simp at hj; omega
  rcases this with rfl | rfl
  · exact ⟨W.heap.size, 0, rfl, World.cell?_alloc_at (hn := rfl) ..⟩
  · exact ⟨W.heap.size, 0, rfl, World.cell?_alloc_at (hn := rfl) ..⟩
theorem len_of {l : List Nat} (h : Limbs l) : (Plumb.limbs (valL l)).length ≤ l.length := length_limbs_le _ _ (valL_lt h)
theorem len_add {l k : List Nat} (h : Limbs l) (h' : Limbs k) : (Plumb.limbs (valL l + valL k)).length ≤ l.length + k.length + 1 := by
  apply length_limbs_le
  have h1 := valL_lt h
  have h2 := valL_lt h'
  have p1 : 18446744073709551616 ^ l.length ≤ 18446744073709551616 ^ (l.length + k.length) := Nat.pow_le_pow_right (by decide) (by omega)
  have p2 : 18446744073709551616 ^ k.length ≤ 18446744073709551616 ^ (l.length + k.length) := Nat.pow_le_pow_right (by decide) (by omega)
  rw [Nat.pow_succ]
  omega
theorem len_mul {l k : List Nat} (h : Limbs l) (h' : Limbs k) : (Plumb.limbs (valL l * valL k)).length ≤ l.length + k.length := by
  apply length_limbs_le
  rw [Nat.pow_add]
  have h1 := valL_lt h
  have h2 := valL_lt h'
  exact Nat.mul_lt_mul'' h1 h2
end Go.Plumb
namespace Go.Proofs.YtjlaadadbpffdaaGreatDoor
open Go.RowKit Go.Plumb

section
variable {w : World} {a b : Option Addr} {n c m d : Nat} {l k : List Nat}
theorem add_n (X : Nat) (h1 : Num w a n c l) (h2 : Num w b m d k) (hX : valL l + valL k = X) (hl : l.length + k.length ≤ 4000) :
    Calls Tryz.prog 108 #[.slice a n c, .slice b m d] w fun e w' => ∃ a' n' c', e = .returned (.tuple #[.slice a' n' c', .int .i64 0]) ∧ Num w' a' n' c' (limbs X) ∧ Below w.heap.size w w' := by
  obtain ⟨rfl, h1⟩ := h1
  obtain ⟨rfl, h2⟩ := h2
  have e1 := len_of h1.2.2.1
  have e2 := len_of h2.2.2.1
  have e3 := len_add h1.2.2.1 h2.2.2.1
  refine (Add_ok a b c d l k w h1 h2 (by omega) (by omega) (by omega)).mono ?_
  rintro e w' ⟨a', c', rfl, h, hb⟩
  rw [hX] at h ⊢
  exact ⟨a', _, c', rfl, ⟨rfl, h⟩, hb⟩
theorem mul_n (X : Nat) (h1 : Num w a n c l) (h2 : Num w b m d k) (hX : valL l * valL k = X) (hl : l.length + k.length ≤ 4000) :
    Calls Tryz.prog 115 #[.slice a n c, .slice b m d] w fun e w' => ∃ a' n' c', e = .returned (.tuple #[.slice a' n' c', .int .i64 0]) ∧ Num w' a' n' c' (limbs X) ∧ Below w.heap.size w w' := by
  obtain ⟨rfl, h1⟩ := h1
  obtain ⟨rfl, h2⟩ := h2
  have e1 := len_of h1.2.2.1
  have e2 := len_of h2.2.2.1
  have e3 := len_mul h1.2.2.1 h2.2.2.1
  refine (Mul_ok a b c d l k w h1 h2 (by omega) (by omega) (by omega)).mono ?_
  rintro e w' ⟨a', c', rfl, h, hb⟩
  rw [hX] at h ⊢
  exact ⟨a', _, c', rfl, ⟨rfl, h⟩, hb⟩
theorem sub_n (X : Nat) (h1 : Num w a n c l) (h2 : Num w b m d k) (hX : valL l = valL k + X) (hl : l.length + k.length ≤ 4000) :
    Calls Tryz.prog 110 #[.slice a n c, .slice b m d] w fun e w' => ∃ a' n' c', e = .returned (.tuple #[.slice a' n' c', .int .i64 0]) ∧ Num w' a' n' c' (limbs X) ∧ Below w.heap.size w w' := by
  obtain ⟨rfl, h1⟩ := h1
  obtain ⟨rfl, h2⟩ := h2
  have e1 := len_of h1.2.2.1
  have e2 := len_of h2.2.2.1
  refine (Sub_ok a b c d l k w h1 h2 (by omega) (by omega) (by omega)).mono ?_
  rintro e w' ⟨a', c', rfl, h, hb⟩
  rw [show valL l - valL k = X by omega] at h ⊢
  exact ⟨a', _, c', rfl, ⟨rfl, h⟩, hb⟩
theorem sub_n_less (h1 : Num w a n c l) (h2 : Num w b m d k) (hX : valL l < valL k) (hl : l.length + k.length ≤ 4000) :
    Calls Tryz.prog 110 #[.slice a n c, .slice b m d] w fun e w' => e = .returned (.tuple #[.slice none 0 0, .int .i64 2]) ∧ Below w.heap.size w w' := by
  obtain ⟨rfl, h1⟩ := h1
  obtain ⟨rfl, h2⟩ := h2
  have e1 := len_of h1.2.2.1
  have e2 := len_of h2.2.2.1
  exact Sub_less a b c d l k w h1 h2 (by omega) (by omega) hX
theorem div_n (X Y : Nat) (h1 : Num w a n c l) (h2 : Num w b m d k) (h0 : valL k ≠ 0) (hX : valL l / valL k = X) (hY : valL l % valL k = Y) (hl : l.length + k.length ≤ 4000) :
    Calls Tryz.prog 79 #[.slice a n c, .slice b m d] w fun e w' => ∃ a' n' c' b' m' d', e = .returned (.tuple #[.slice a' n' c', .slice b' m' d', .int .i64 0]) ∧ Num w' a' n' c' (limbs X) ∧ Num w' b' m' d' (limbs Y) ∧ Below w.heap.size w w' := by
  obtain ⟨rfl, h1⟩ := h1
  obtain ⟨rfl, h2⟩ := h2
  have e1 := len_of h1.2.2.1
  have e2 := len_of h2.2.2.1
  refine (Div_ok a b c d l k w h1 h2 (by omega) (by omega) h0).mono ?_
  rintro e w' ⟨a', c', b', d', rfl, h, h', hb⟩
  rw [hX] at h ⊢
  rw [hY] at h' ⊢
  exact ⟨a', _, c', b', _, d', rfl, ⟨rfl, h⟩, ⟨rfl, h'⟩, hb⟩
theorem div_n_zero (h1 : Num w a n c l) (h2 : Num w b m d k) (h0 : valL k = 0) (hl : l.length + k.length ≤ 4000) :
    Calls Tryz.prog 79 #[.slice a n c, .slice b m d] w fun e w' => e = .returned (.tuple #[.slice none 0 0, .slice none 0 0, .int .i64 2]) ∧ Below w.heap.size w w' := by
  obtain ⟨rfl, h1⟩ := h1
  obtain ⟨rfl, h2⟩ := h2
  have e1 := len_of h1.2.2.1
  exact Div_zero a b c d l k w h1 h2 (by omega) h0
theorem sqrt_n (X Y : Nat) (h1 : Num w a n c l) (hX : isqN (valL l) = X) (hY : valL l = X * X + Y) (hl : l.length ≤ 4000) :
    Calls Tryz.prog 87 #[.slice a n c] w fun e w' => ∃ a' n' c' b' m' d', e = .returned (.tuple #[.slice a' n' c', .slice b' m' d', .int .i64 0]) ∧ Num w' a' n' c' (limbs X) ∧ Num w' b' m' d' (limbs Y) ∧ Below w.heap.size w w' := by
  obtain ⟨rfl, h1⟩ := h1
  have e1 := len_of h1.2.2.1
  refine (Sqrt_any a c l w h1 (by omega)).mono ?_
  rintro e w' ⟨a', c', b', d', rfl, h, h', hb⟩
  rw [hX] at h h' ⊢
  rw [show valL l - X * X = Y by omega] at h' ⊢
  exact ⟨a', _, c', b', _, d', rfl, ⟨rfl, h⟩, ⟨rfl, h'⟩, hb⟩
theorem shl_n (X i : Nat) (h1 : Num w a n c l) (hX : valL l * 2 ^ i = X) (hl : l.length ≤ 4000) (hi : i ≤ 9223372036854775807) (hlX : (limbs X).length ≤ 4096) :
    Calls Tryz.prog 78 #[.slice a n c, .int .i64 (i : Int)] w fun e w' => ∃ a' n' c', e = .returned (.tuple #[.slice a' n' c', .int .i64 0]) ∧ Num w' a' n' c' (limbs X) ∧ Below w.heap.size w w' := by
  obtain ⟨rfl, h1⟩ := h1
  have e1 := len_of h1.2.2.1
  refine (Shl_any a c i l w h1 (by omega) hi).mono ?_
  rintro e w' ⟨v, x, rfl, h, hb⟩
  rw [hX] at h
  obtain ⟨rfl, a', c', rfl, h'⟩ := h.1 hlX
  exact ⟨a', _, c', rfl, ⟨rfl, h'⟩, hb⟩
theorem shr_n (X i : Nat) (h1 : Num w a n c l) (hX : valL l / 2 ^ i = X) (hl : l.length ≤ 4000) (hi : i ≤ 9223372036854775807) :
    Calls Tryz.prog 100 #[.slice a n c, .int .i64 (i : Int)] w fun e w' => ∃ a' n' c', e = .returned (.tuple #[.slice a' n' c', .bool (decide (valL l % 2 ^ i ≠ 0)), .int .i64 0]) ∧ Num w' a' n' c' (limbs X) ∧ Below w.heap.size w w' := by
  obtain ⟨rfl, h1⟩ := h1
  have e1 := len_of h1.2.2.1
  refine (Shr_any a c i l w h1 (by omega) hi).mono ?_
  rintro e w' ⟨a', c', rfl, h, hb⟩
  rw [hX] at h ⊢
  exact ⟨a', _, c', rfl, ⟨rfl, h⟩, hb⟩
theorem norm_n (h1 : Num w a n c l) (hl : l.length ≤ 4000) :
    Calls Tryz.prog 118 #[.slice a n c] w fun e w' => ∃ a' n' c', e = .returned (.tuple #[.slice a' n' c', .int .i64 0]) ∧ Num w' a' n' c' (limbs (valL l)) ∧ Below w.heap.size w w' := by
  obtain ⟨rfl, h1⟩ := h1
  have e1 := len_of h1.2.2.1
  refine (norm_any a c l w h1 (by omega)).mono ?_
  rintro e w' ⟨a', c', rfl, h, hb⟩
  exact ⟨a', _, c', rfl, ⟨rfl, h⟩, hb⟩
theorem cmp_n (h1 : Num w a n c l) (h2 : Num w b m d k) (hl : l.length + k.length ≤ 4000) :
    Calls Tryz.prog 109 #[.slice a n c, .slice b m d] w fun e w' => e = .returned (.tuple #[.int .i64 (cmpN (valL l) (valL k)), .int .i64 0]) ∧ Below w.heap.size w w' := by
  obtain ⟨rfl, h1⟩ := h1
  obtain ⟨rfl, h2⟩ := h2
  have e1 := len_of h1.2.2.1
  have e2 := len_of h2.2.2.1
  exact Cmp_any a b c d l k w h1 h2 (by omega) (by omega)
theorem bits_n (h1 : Num w a n c l) (hl : l.length ≤ 4000) :
    Calls Tryz.prog 77 #[.slice a n c] w fun e w' => e = .returned (.tuple #[.int .i64 (lenN (valL l) : Int), .int .i64 0]) ∧ Below w.heap.size w w' := by
  obtain ⟨rfl, h1⟩ := h1
  have e1 := len_of h1.2.2.1
  exact Bits_any a c l w h1 (by omega)
theorem zeros_n (hT : Tab w) (h1 : Num w a n c l) (hl : l.length ≤ 4000) :
    Calls Tryz.prog 151 #[.slice a n c] w fun e w' => e = .returned (.tuple #[.int .i64 (zerosN (valL l) : Int), .int .i64 0]) ∧ Below w.heap.size w w' := by
  obtain ⟨rfl, h1⟩ := h1
  have e1 := len_of h1.2.2.1
  exact Zeros_any a c l w h1 (by omega) hT
theorem text_n (h1 : Num w a n c l) (hl : l.length ≤ 1000) :
    Calls Tryz.prog 170 #[.slice a n c] w fun e w' => e = .returned (.tuple #[.string ⟨(textN (valL l)).toArray⟩, .int .i64 0]) ∧ Below w.heap.size w w' := by
  obtain ⟨rfl, h1⟩ := h1
  have e1 := len_of h1.2.2.1
  exact Text_any a c l w h1 (by omega)
/-- What an own row is, as a number. -/
theorem own_num {w' : World} {B : Nat} {v : Value} {l : List Nat} (h : OwnL w' B v l) (hl : Limbs l) : ∃ a n c, v = .slice a n c ∧ Num w' a n c l := by
  obtain ⟨a, c, rfl⟩ := OwnL.shape h
  exact ⟨a, _, c, rfl, rfl, OwnL.arr' h hl⟩
theorem radd_n (X : Nat) (h1 : Num w a n c l) (h2 : Num w b m d k) (hX : valL l + valL k = X) (hl : l.length + k.length ≤ 4000) :
    Calls Tryz.prog 88 #[.slice a n c, .slice b m d] w fun e w' => ∃ a' n' c', e = .returned (.slice a' n' c') ∧ Num w' a' n' c' (limbs X) ∧ Below w.heap.size w w' := by
  obtain ⟨rfl, h1⟩ := h1
  obtain ⟨rfl, h2⟩ := h2
  refine (radd_any a b c d l k w h1 h2 (by omega) (by omega)).mono ?_
  rintro e w' ⟨v, rfl, h, hb⟩
  rw [hX] at h
  obtain ⟨a', n', c', rfl, hn⟩ := own_num h (limbs_limbs X)
  exact ⟨a', n', c', rfl, hn, hb⟩
theorem rmul_n (X : Nat) (h1 : Num w a n c l) (h2 : Num w b m d k) (hX : valL l * valL k = X) (hl : l.length + k.length ≤ 4000) :
    Calls Tryz.prog 91 #[.slice a n c, .slice b m d] w fun e w' => ∃ a' n' c', e = .returned (.slice a' n' c') ∧ Num w' a' n' c' (limbs X) ∧ Below w.heap.size w w' := by
  obtain ⟨rfl, h1⟩ := h1
  obtain ⟨rfl, h2⟩ := h2
  refine (rmul_any a b c d l k w h1 h2 (by omega) (by omega)).mono ?_
  rintro e w' ⟨v, rfl, h, hb⟩
  rw [hX] at h
  obtain ⟨a', n', c', rfl, hn⟩ := own_num h (limbs_limbs X)
  exact ⟨a', n', c', rfl, hn, hb⟩
theorem rsub_n (X : Nat) (h1 : Num w a n c l) (h2 : Num w b m d k) (hX : valL l = valL k + X) (hl : l.length + k.length ≤ 4000) :
    Calls Tryz.prog 113 #[.slice a n c, .slice b m d] w fun e w' => ∃ a' n' c', e = .returned (.slice a' n' c') ∧ Num w' a' n' c' (limbs X) ∧ Below w.heap.size w w' := by
  obtain ⟨rfl, h1⟩ := h1
  obtain ⟨rfl, h2⟩ := h2
  refine (rsub_any a b c d l k w h1 h2 (by omega) (by omega) (by omega)).mono ?_
  rintro e w' ⟨v, rfl, h, hb⟩
  rw [show valL l - valL k = X by omega] at h
  obtain ⟨a', n', c', rfl, hn⟩ := own_num h (limbs_limbs X)
  exact ⟨a', n', c', rfl, hn, hb⟩
theorem rnorm_n (h1 : Num w a n c l) (hl : l.length ≤ 4000) :
    Calls Tryz.prog 119 #[.slice a n c] w fun e w' => ∃ a' n' c', e = .returned (.slice a' n' c') ∧ Num w' a' n' c' (limbs (valL l)) ∧ Below w.heap.size w w' := by
  obtain ⟨rfl, h1⟩ := h1
  refine (rnorm_any a c l w h1 (by omega)).mono ?_
  rintro e w' ⟨v, rfl, h, hb⟩
  obtain ⟨a', n', c', rfl, hn⟩ := own_num h (limbs_limbs _)
  exact ⟨a', n', c', rfl, hn, hb⟩
theorem rcmp_n (h1 : Num w a n c l) (h2 : Num w b m d k) (hl : l.length + k.length ≤ 4000) :
    Calls Tryz.prog 90 #[.slice a n c, .slice b m d] w fun e w' => e = .returned (.int .i64 (cmpN (valL l) (valL k))) ∧ Below w.heap.size w w' := by
  obtain ⟨rfl, h1⟩ := h1
  obtain ⟨rfl, h2⟩ := h2
  exact rcmp_any a b c d l k w h1 h2 (by omega) (by omega)
theorem same_n (h1 : Num w a n c l) (h2 : Num w b m d k) (he : l = k) (hl : l.length ≤ 10000) :
    Calls Tryz.prog 97 #[.slice a n c, .slice b m d] w fun e w' => e = .returned (.bool true) ∧ Below w.heap.size w w' := by
  obtain ⟨rfl, h1⟩ := h1
  obtain ⟨rfl, h2⟩ := h2
  refine (sameL_any a b c d l k w h1 h2 (by omega)).mono ?_
  rintro e w' ⟨bl, rfl, h, hb⟩
  obtain rfl : bl = true := h.2 he
  exact ⟨rfl, hb⟩
theorem rshl_n (X i : Nat) (h1 : Num w a n c l) (hX : valL l * 2 ^ i = X) (hl : l.length ≤ 4000) (hi : i ≤ 500000) :
    Calls Tryz.prog 85 #[.slice a n c, .int .i64 (i : Int)] w fun e w' => ∃ a' n' c', e = .returned (.slice a' n' c') ∧ Num w' a' n' c' (limbs X) ∧ Below w.heap.size w w' := by
  obtain ⟨rfl, h1⟩ := h1
  refine (rshl_any a c i l w h1 (by omega) hi).mono ?_
  rintro e w' ⟨v, rfl, h, hb⟩
  rw [hX] at h
  obtain ⟨a', n', c', rfl, hn⟩ := own_num h (limbs_limbs X)
  exact ⟨a', n', c', rfl, hn, hb⟩
theorem rshr_n (X i : Nat) (h1 : Num w a n c l) (hX : valL l / 2 ^ i = X) (hl : l.length ≤ 4000) (hi : i ≤ 9223372036854775807) :
    Calls Tryz.prog 140 #[.slice a n c, .int .i64 (i : Int)] w fun e w' => ∃ a' n' c', e = .returned (.tuple #[.slice a' n' c', .bool (decide (valL l % 2 ^ i ≠ 0))]) ∧ Num w' a' n' c' (limbs X) ∧ Below w.heap.size w w' := by
  obtain ⟨rfl, h1⟩ := h1
  refine (rshr_any a c i l w h1 (by omega) hi).mono ?_
  rintro e w' ⟨v, rfl, h, hb⟩
  rw [hX] at h
  obtain ⟨a', n', c', rfl, hn⟩ := own_num h (limbs_limbs X)
  exact ⟨a', n', c', rfl, hn, hb⟩
theorem rpow2_n (i : Nat) (hi : i ≤ 262143) :
    Calls Tryz.prog 89 #[.int .i64 (i : Int)] w fun e w' => ∃ a' n' c', e = .returned (.slice a' n' c') ∧ Num w' a' n' c' (limbs (2 ^ i)) ∧ Below w.heap.size w w' := by
  refine (rpow2_any i w (by omega)).mono ?_
  rintro e w' ⟨v, l, rfl, h, hv, hl, hlen, hb⟩
  obtain ⟨a', n', c', rfl, hn⟩ := own_num h hl
  have e1 : limbs (2 ^ i) = l := by
    rw [← hv]
    have h1 : 18446744073709551616 ^ (i / 64) ≤ valL l := by
      rw [hv, powB64]
      exact Nat.pow_le_pow_right (by decide) (by omega)
    apply limbs_valL hl
    right
    intro h0
    have := valL_take_succ l (i / 64) (by omega)
    rw [List.take_of_length_le (by omega)] at this
    rw [show l.length - 1 = i / 64 by omega] at h0
    rw [h0, Nat.mul_zero, Nat.add_zero] at this
    have h2 := valL_lt (hl.take (i / 64))
    rw [List.length_take, Nat.min_eq_left (by omega)] at h2
    omega
  rw [e1]
  exact ⟨a', n', c', rfl, hn, hb⟩
theorem rbits_n (h1 : Num w a n c l) (hl : l.length ≤ 4000) :
    Calls Tryz.prog 83 #[.slice a n c] w fun e w' => e = .returned (.int .i64 (lenN (valL l) : Int)) ∧ Below w.heap.size w w' := by
  obtain ⟨rfl, h1⟩ := h1
  exact rbits_any a c l w h1 (by omega)
theorem rzeros_n (h1 : Num w a n c l) (hl : l.length ≤ 4000) :
    Calls Tryz.prog 139 #[.slice a n c] w fun e w' => e = .returned (.int .i64 (zerosN (valL l) : Int)) ∧ Below w.heap.size w w' := by
  obtain ⟨rfl, h1⟩ := h1
  exact rzeros_any a c l w h1 (by omega)
theorem rbit_n (i : Int) (h1 : Num w a n c l) (hi : i ≤ 9223372036854775807) :
    Calls Tryz.prog 141 #[.slice a n c, .int .i64 i] w fun e w' => e = .returned (.bool (bitB (valL l) i)) ∧ w = w' := by
  obtain ⟨rfl, h1⟩ := h1
  exact rBit_any a c i l w h1 hi
end
end Go.Proofs.YtjlaadadbpffdaaGreatDoor
