/-
  The reference of layer 2: Norm, Same, digit, cut, join.
-/
import Derived.Test.YtjfjkabmpiebpaaDoorNatT
import Derived.Test.YtjfjkabmpiebpaaDoorNatH
import Derived.Laws.AppendOwnNone
import Derived.Deep.AppendLies
set_option linter.unusedSimpArgs false
set_option linter.unusedVariables false
namespace Go.Plumb
theorem cut_step (l : List Nat) (i : Nat) (h : i < l.length) : cutH (l.take (i + 1)) = cutH (l.take i) ++ [l.getD i 0 % 4294967296, l.getD i 0 / 4294967296] := by
  rw [List.take_succ_eq_append_getElem h, cutH_append]
  simp [cutH, List.getD, h]
theorem halves_get {l : List Nat} (h : Halves l) (j : Nat) : l.getD j 0 < 4294967296 := by
  unfold List.getD
  cases e : l[j]? with
  | none => decide
  | some x => exact h x (List.mem_of_getElem? e)
theorem join_step (l : List Nat) (k z : Nat) (h : 2 * k < l.length) (hz : l.getD (2 * k) 0 + l.getD (2 * k + 1) 0 * 4294967296 = z) : joinH (l.take (2 * (k + 1))) = joinH (l.take (2 * k)) ++ [z] := by
  rw [← joinH_take, ← joinH_take]
  have hl : k < (joinH l).length := by rw [joinH_length]; omega
  rw [List.take_succ_eq_append_getElem hl]
  have := joinH_get l k h
  rw [hz] at this
  have e : (joinH l)[k] = z := by rw [← this]; simp [List.getD, hl]
  rw [e]
end Go.Plumb
namespace Go.Proofs.YtjfjkabmpiebpaaDoor
open Go.RowKit Go.Plumb

set_option maxHeartbeats 1000000 in
theorem rnorm_core (b off c n : Nat) (l : List Nat) (w : World) (hn : n = l.length) (hA : Arr w (some ⟨b, off, none⟩) c l) (hl : n ≤ 100000) (h0 : 0 < n) :
    Calls Tryd.prog 27 #[.slice (some ⟨b, off, none⟩) n c] w fun e w' => ∃ v, e = .returned v ∧ OwnL w' w.heap.size v (limbs (valL l)) ∧ Below w.heap.size w w' := by
  obtain ⟨i0, hi, hz0, hz1, hz2⟩ := info_parts info_u64
  have HA : Hid (∀ wr, Below w.heap.size w wr → Arr wr (some ⟨b, off, none⟩) c l) := Lib.hid fun wr h => hA.below h
  have Hn := Lib.hid hn
  have hnc : n ≤ c := by have := hA.1; omega
  clear hA hn
  go_enter Tryd.func27, Tryd.ntmps27
  go_wp2_with fail
  go_loop [3] (fun v => ∃ m : Nat, m ≤ n ∧ v = .int .i64 (m : Int) ∧ Hid (∀ j, m ≤ j → l.getD j 0 = 0)) (fun v => (intOf v).toNat)
  case atStart => exact ⟨n, Nat.le_refl _, rfl, Lib.hid fun j hj => by have := Hn.out; simp [List.getD, List.getElem?_eq_none (show l.length ≤ j by omega)]⟩
  case round =>
    obtain ⟨m, hm, rfl, hz⟩ := hrel
    cases m with
    | zero =>
      go_wp2_with fail
      go_ret
      have e := take_limbs (HA.out w (Below.refl _ _)).2.2.1 0 (Nat.zero_le _) hz.out (.inl rfl)
      rw [List.take_zero] at e
      rw [← e]
      exact ⟨_, rfl, World.ownsRow_nil _ _ _ _, Below.refl _ _⟩
    | succ k =>
      obtain ⟨b', off', e, hc⟩ := (HA.out w (Below.refl _ _)).2.2.2 k (by have := Hn.out; omega)
      cases e
      by_cases h0' : l.getD k 0 = 0
      · rw [h0'] at hc
        go_wp2_with fail
        go_round
        case rel => exact ⟨k, by omega, by go_num, Lib.hid fun j hj => by
          by_cases e : j = k
          · rw [e]; exact h0'
          · exact hz.out j (by omega)⟩
        case measure => simp [intOf]
      · obtain ⟨x, hx⟩ : ∃ x, l.getD k 0 = x := ⟨_, rfl⟩
        rw [hx] at hc h0'
        have hM : k + 1 = 0 ∨ l.getD (k + 1 - 1) 0 ≠ 0 := .inr (by rw [Nat.add_sub_cancel, hx]; exact h0')
        have hxz : ((x : Int) == 0) = false := by simp; omega
        have HM := Lib.hid hM
        clear hx hM
        go_wp2_with (at_builtin; refine wpList_append_own _ rfl _ _ 22 rfl w.heap.size 36 i0 (.int .u64 0) 1 8 Tryd.underlying22 hi hz0 hz1 hz2 rfl (by decide) _ 0 [] rfl (World.ownsRow_nil _ _ _ _) ⟨b, off, none⟩ (k + 1) c ((l.map limbV).take (k + 1)) rfl ?c1 ?c2 ?c3 ?c4 ?c5 ?c6 ?_)
        case c1 => exact Nat.min_eq_left (by have := Hn.out; omega)
        case c2 =>
          intro j u hj
          obtain ⟨hj1, rfl⟩ := List.getElem?_eq_some_iff.1 hj
          rw [List.length_take, List.length_map] at hj1
          obtain ⟨b', off', e, hc⟩ := arr_at (HA.out w (Below.refl _ _)) j (by omega)
          cases e
          rw [hc]
          simp [List.getD, show j < l.length by omega]
        case c3 => intro u hu; obtain ⟨x, _, rfl⟩ := List.mem_map.1 (List.mem_of_mem_take hu); rfl
        case c4 => unfold maxLen; omega
        case c5 => omega
        intro v' w1 hown hgrow hnil
        go_wp2_with fail
        go_ret
        refine ⟨v', rfl, ?_, (Below.refl _ w).grown hgrow (Nat.le_refl _) (by intro q hq; simp [Value.ownBlock] at hq)⟩
        have e := take_limbs (HA.out w (Below.refl _ _)).2.2.1 (k + 1) (by have := Hn.out; omega) hz.out HM.out
        unfold OwnL
        rw [← e, List.length_take, Nat.min_eq_left (by have := Hn.out; omega), List.map_take]
        simpa using hown
theorem rnorm_nil (a : Option Addr) (c : Nat) (w : World) :
    Calls Tryd.prog 27 #[.slice a 0 c] w fun e w' => ∃ v, e = .returned v ∧ OwnL w' w.heap.size v [] ∧ Below w.heap.size w w' := by
  cases a with
  | none =>
    go_enter Tryd.func27, Tryd.ntmps27
    go_wp2_with fail
    go_loop [3] (fun v => v = .int .i64 0) (fun v => 0)
    case atStart => rfl
    case round =>
      subst hrel
      go_wp2_with fail
      go_ret
      exact ⟨_, rfl, World.ownsRow_nil _ _ _ _, Below.refl _ _⟩
  | some ad =>
    go_enter Tryd.func27, Tryd.ntmps27
    go_wp2_with fail
    go_loop [3] (fun v => v = .int .i64 0) (fun v => 0)
    case atStart => rfl
    case round =>
      subst hrel
      go_wp2_with fail
      go_ret
      exact ⟨_, rfl, World.ownsRow_nil _ _ _ _, Below.refl _ _⟩
/-- The reference's Norm. -/
theorem rnorm_any (a : Option Addr) (c : Nat) (l : List Nat) (w : World) (hA : Arr w a c l) (hl : l.length ≤ 100000) :
    Calls Tryd.prog 27 #[.slice a l.length c] w fun e w' => ∃ v, e = .returned v ∧ OwnL w' w.heap.size v (limbs (valL l)) ∧ Below w.heap.size w w' := by
  by_cases h0 : l = []
  · subst h0
    rw [show valL [] = 0 from rfl, limbs_zero]
    exact rnorm_nil a c w
  · obtain ⟨b, off, rfl, _⟩ := hA.at h0
    exact rnorm_core b off c _ l w rfl hA hl (List.length_pos_iff.2 h0)

theorem same_len (a b : Option Addr) (c d n m : Nat) (w : World) (h : n ≠ m) :
    Calls Tryd.prog 18 #[.slice a n c, .slice b m d] w fun e w' => e = .returned (.bool false) ∧ w = w' := by
  have h1 : ((n : Int) != (m : Int)) = true := by simp; omega
  go_enter Tryd.func18, Tryd.ntmps18
  go_wp2_with fail
  go_ret
  exact ⟨rfl, rfl⟩
set_option maxHeartbeats 1000000 in
theorem same_core (a b : Option Addr) (c d n : Nat) (l m : List Nat) (w : World) (hA : Arr w a c l) (hB : Arr w b d m) (hl : l.length = n) (hm : m.length = n) (hn : n ≤ 100000) :
    Calls Tryd.prog 18 #[.slice a n c, .slice b n d] w fun e w' => ∃ bl, e = .returned (.bool bl) ∧ (bl = true ↔ l = m) ∧ Below w.heap.size w w' := by
  have HA : Hid (∀ wr, Below w.heap.size w wr → Arr wr a c l) := Lib.hid fun wr h => hA.below h
  have HB : Hid (∀ wr, Below w.heap.size w wr → Arr wr b d m) := Lib.hid fun wr h => hB.below h
  have Hl := Lib.hid hl
  have Hm := Lib.hid hm
  have h1 : ((n : Int) != (n : Int)) = false := by simp
  clear hA hB hl hm
  go_enter Tryd.func18, Tryd.ntmps18
  go_wp2_with fail
  go_loopw [5] (fun v wr => ∃ i : Nat, i ≤ n ∧ v = .int .i64 (i : Int) ∧ Hid (∀ j, j < i → l.getD j 0 = m.getD j 0) ∧ Hid (Below w.heap.size w wr)) (fun v _ => n - (intOf v).toNat)
  case atStart => exact ⟨0, Nat.zero_le _, rfl, Lib.hid fun j h => by omega, Lib.hid (Below.refl _ _)⟩
  case round =>
    obtain ⟨i, hi, rfl, hz, hB⟩ := hrel
    by_cases hlt : i < n
    · obtain ⟨b1, o1, ea, hc1⟩ := (HA.out wr hB.out).2.2.2 i (by have := Hl.out; omega)
      obtain ⟨b2, o2, eb, hc2⟩ := (HB.out wr hB.out).2.2.2 i (by have := Hm.out; omega)
      obtain ⟨x, hx⟩ : ∃ x, l.getD i 0 = x := ⟨_, rfl⟩
      obtain ⟨y, hy⟩ : ∃ y, m.getD i 0 = y := ⟨_, rfl⟩
      rw [hx] at hc1
      rw [hy] at hc2
      have HX := Lib.hid hx
      have HY := Lib.hid hy
      have z1 : (0 : Int) ≤ (i : Int) := by omega
      have z2 : (i : Int) < (n : Int) := by omega
      subst ea eb
      clear hx hy
      by_cases hxy : x = y
      · have hne : ((x : Int) != (y : Int)) = false := by simp; omega
        go_wp2_with fail
        go_quiet (fail)
        go_wp2_with fail
        go_roundw
        case rel => exact ⟨i + 1, by omega, by go_num, Lib.hid fun j hj => by
          by_cases e : j = i
          · rw [e, HX.out, HY.out, hxy]
          · exact hz.out j (by omega), Lib.hid (below_drewN hB.out _)⟩
        case measure => simp [intOf]; omega
      · have hne : ((x : Int) != (y : Int)) = true := by simp; omega
        go_wp2_with fail
        go_quiet (fail)
        go_wp2_with fail
        go_ret
        exact ⟨false, rfl, ⟨fun h => (by cases h), fun h => by have := HX.out; rw [h, HY.out] at this; omega⟩, below_drewN hB.out _⟩
    · obtain rfl : n = i := by omega
      go_wp2_with fail
      go_ret
      refine ⟨true, rfl, ⟨fun _ => ?_, fun _ => rfl⟩, hB.out⟩
      apply List.ext_getElem (by rw [Hl.out, Hm.out])
      intro j h3 h4
      have := hz.out j (by have := Hl.out; omega)
      simpa only [List.getD, List.getElem?_eq_getElem h3, List.getElem?_eq_getElem h4, Option.getD_some] using this
/-- The reference's Same. -/
theorem same_any (a b : Option Addr) (c d : Nat) (l m : List Nat) (w : World) (hA : Arr w a c l) (hB : Arr w b d m) (hl : l.length ≤ 100000) :
    Calls Tryd.prog 18 #[.slice a l.length c, .slice b m.length d] w fun e w' => ∃ bl, e = .returned (.bool bl) ∧ (bl = true ↔ l = m) ∧ Below w.heap.size w w' := by
  by_cases h : l.length = m.length
  · rw [← h]
    exact same_core a b c d _ l m w hA hB rfl h.symm hl
  · refine (same_len a b c d _ _ w h).mono ?_
    rintro e w' ⟨rfl, rfl⟩
    exact ⟨false, rfl, ⟨fun h => (by cases h), fun e => absurd (congrArg List.length e) h⟩, Below.refl _ _⟩
theorem digit_any (a : Option Addr) (c i : Nat) (l : List Nat) (w : World) (hA : Arr w a c l) (hi : i ≤ 9223372036854775807) :
    Calls Tryd.prog 54 #[.slice a l.length c, .int .i64 (i : Int)] w fun e w' => e = .returned (.int .u64 ((l.getD i 0 : Nat) : Int)) ∧ w = w' := by
  by_cases h : i < l.length
  · obtain ⟨b, off, rfl, hc⟩ := hA.2.2.2 i h
    obtain ⟨x, hx⟩ : ∃ x, l.getD i 0 = x := ⟨_, rfl⟩
    obtain ⟨n, hn⟩ : ∃ n, l.length = n := ⟨_, rfl⟩
    rw [hx] at hc ⊢
    rw [hn] at h ⊢
    clear hx hn hA
    go_enter Tryd.func54, Tryd.ntmps54
    go_wp2_with fail
    go_ret
    exact ⟨rfl, rfl⟩
  · rw [show l.getD i 0 = 0 by simp [List.getD, List.getElem?_eq_none (Nat.le_of_not_lt h)]]
    obtain ⟨n, hn⟩ : ∃ n, l.length = n := ⟨_, rfl⟩
    rw [hn] at h ⊢
    clear hn hA
    go_enter Tryd.func54, Tryd.ntmps54
    go_wp2_with fail
    go_ret
    exact ⟨rfl, rfl⟩
theorem own_ne {w : World} {B : Nat} {v : Value} {l : List Nat} {b : Nat} (h : OwnL w B v l) (hb : b < B) : some b ≠ v.ownBlock := fun e => by
  have := (World.ownsRow.lt (show w.ownsRow B 36 1 v l.length (l.map limbV) from h) b e.symm).1
  omega
theorem OwnL.weaken {w : World} {B B' : Nat} {v : Value} {l : List Nat} (h : OwnL w B v l) (hb : B' ≤ B) : OwnL w B' v l := by
  obtain ⟨hx, hn | ⟨g, cap, cur, e, hg, rest⟩⟩ := h
  · exact ⟨hx, .inl hn⟩
  · exact ⟨hx, .inr ⟨g, cap, cur, e, by omega, rest⟩⟩
theorem one_cell (wx : World) (x : Nat) (t : TypeId) : ∀ (j : Nat) (v : Value), [limbV x][j]? = some v → (wx.alloc (.cells #[limbV x] t)).cell? ((⟨wx.heap.size, 0, none⟩ : Addr).add j) = some v := by
  intro j v hj
  match j, hj with
  | 0, hj => simp at hj; subst hj; simp [Addr.add, go_sem, limbV]
theorem one_one (x : Nat) : ∀ v ∈ [limbV x], v.oneCell' = true := by
  intro v hv; simp at hv; subst hv; rfl
theorem two_cells (wx : World) (x y : Nat) (t : TypeId) : ∀ (j : Nat) (v : Value), [limbV x, limbV y][j]? = some v → (wx.alloc (.cells #[limbV x, limbV y] t)).cell? ((⟨wx.heap.size, 0, none⟩ : Addr).add j) = some v := by
  intro j v hj
  match j, hj with
  | 0, hj => simp at hj; subst hj; simp [Addr.add, go_sem, limbV]
  | 1, hj => simp at hj; subst hj; simp [Addr.add, go_sem, limbV]
theorem two_one (x y : Nat) : ∀ v ∈ [limbV x, limbV y], v.oneCell' = true := by
  intro v hv; simp at hv; rcases hv with rfl | rfl <;> rfl
set_option maxHeartbeats 1000000 in
theorem cut_any (a : Option Addr) (c : Nat) (l : List Nat) (w : World) (hA : Arr w a c l) (hl : l.length ≤ 100000) :
    Calls Tryd.prog 53 #[.slice a l.length c] w fun e w' => ∃ v, e = .returned v ∧ OwnL w' w.heap.size v (cutH l) ∧ Below w.heap.size w w' := by
  obtain ⟨i0, hi, hz0, hz1, hz2⟩ := info_parts info_u64
  obtain ⟨n, hn⟩ : ∃ n, l.length = n := ⟨_, rfl⟩
  have HA : Hid (∀ wr, Below w.heap.size w wr → Arr wr a c l) := Lib.hid fun wr h => hA.below h
  have Hn := Lib.hid hn
  rw [hn] at hl ⊢
  clear hA hn
  go_enter Tryd.func53, Tryd.ntmps53
  go_wp2_with fail
  go_loopw [3, 4] (fun u v wr => ∃ (i : Nat) (q : Value), i ≤ n ∧ v = .int .i64 (i : Int) ∧ q = u ∧ Hid (OwnL wr w.heap.size u (cutH (l.take i))) ∧ Hid (Below w.heap.size w wr)) (fun _ v _ => n - (intOf v).toNat)
  case atStart => exact ⟨0, _, Nat.zero_le _, rfl, rfl, Lib.hid (World.ownsRow_nil _ _ _ _), Lib.hid (Below.refl _ _)⟩
  case round =>
    obtain ⟨i, u, hi', rfl, rfl, hown, hB⟩ := hrel
    by_cases hlt : i < n
    · obtain ⟨b1, o1, ea, hc1⟩ := (HA.out wr hB.out).2.2.2 i (by have := Hn.out; omega)
      obtain ⟨x, hx⟩ : ∃ x, l.getD i 0 = x := ⟨_, rfl⟩
      rw [hx] at hc1
      have HX := Lib.hid hx
      subst ea
      clear hx
      have hlen : (cutH (l.take i)).length = 2 * i := by rw [cutH_length, List.length_take, Nat.min_eq_left (by have := Hn.out; omega)]
      have Hlen := Lib.hid hlen
      obtain ⟨L, hL⟩ : ∃ L, cutH (l.take i) = L := ⟨_, rfl⟩
      rw [hL] at hown hlen
      have HL := Lib.hid hL
      have HLn := Lib.hid hlen
      clear hL hlen
      go_wp2_with fail
      have hxl : x < 18446744073709551616 := by rw [← HX.out]; exact (HA.out wr hB.out).2.2.1.get i
      have hsz : w.heap.size ≤ wr.heap.size := hB.out.size
      have z1 : (0 : Int) ≤ (i : Int) := by omega
      have z2 : (i : Int) < (n : Int) := by omega
      obtain ⟨xl, hxlo⟩ : ∃ y, x % 4294967296 = y := ⟨_, rfl⟩
      obtain ⟨xh, hxhi⟩ : ∃ y, x / 4294967296 = y := ⟨_, rfl⟩
      have t1 : (x : Int).tmod 4294967296 = (xl : Int) := by rw [Int.tmod_eq_emod_of_nonneg (by omega)]; omega
      have t2 : (x : Int) % 4294967296 = (xl : Int) := by omega
      have t3 : (x : Int) / 4294967296 = (xh : Int) := by omega
      have t4 : IntKind.u64.wrap (xh : Int) = (xh : Int) := by rw [IntKind.wrap_u64]; omega
      have HXL := Lib.hid (show l.getD i 0 % 4294967296 = xl ∧ l.getD i 0 / 4294967296 = xh by rw [HX.out]; exact ⟨hxlo, hxhi⟩)
      clear hxlo hxhi
      have hb1 : b1 < w.heap.size := by
        obtain ⟨q1, q2, e, hc⟩ := (HA.out w (Below.refl _ _)).2.2.2 i (by have := Hn.out; omega)
        cases e
        exact cell_lt hc
      have hne1 : some b1 ≠ u.ownBlock := own_ne hown.out hb1
      go_region_held3 (fun wx => wx.cell? ⟨b1, o1 + i, none⟩ = some (.int .u64 (x : Int))) (first | exact hc1 | exact d0 | go_keep) ((first | (refine step_append_lies _ rfl _ _ 22 rfl w.heap.size 36 i0 (.int .u64 0) 1 8 Tryd.underlying22 hi hz0 hz1 hz2 rfl (by decide) u L.length (L.map limbV) rfl (World.ownsRow.drew (World.ownsRow.alloc hown.out _)) ⟨wr.heap.size, 0, none⟩ 2 2 [limbV xl, limbV xh] rfl rfl (two_cells _ _ _ _) (two_one _ _) (by decide) (by have := HLn.out; unfold maxLen; omega) (by have := HLn.out; omega) (by simp; omega) _ rfl ?_; intro g cap w1 hown1 hgrow hat hlt1; have d0 := hgrow.cell (a := ⟨b1, o1 + i, none⟩) (Lib.cell?_alloc_some _ hc1) hne1; have HO1 := Lib.hid hown1; have HG := Lib.hid hgrow; clear hown1 hgrow hat hlt1)))
      all_goals go_wp2_with fail
      all_goals go_roundw
      case rel =>
        refine ⟨i + 1, _, by omega, by go_num, rfl, Lib.hid ?_, Lib.hid ?_⟩
        · have h := HO1.out
          rw [cut_step l i (by have := Hn.out; omega), HL.out, HXL.out.1, HXL.out.2]
          unfold OwnL
          rw [List.length_append, List.map_append]
          exact h
        · exact ((hB.out.alloc hsz _).drew).grown HG.out (by simp; omega) (by
            intro q hq
            exact (World.ownsRow.lt (show wr.ownsRow w.heap.size 36 1 u L.length (L.map limbV) from hown.out) q hq).1)
      case measure => simp [intOf]; omega
    · obtain rfl : n = i := by omega
      go_wp2_with fail
      go_ret
      have h := hown.out
      rw [List.take_of_length_le (by rw [Hn.out]; exact Nat.le_refl _)] at h
      exact ⟨u, rfl, h, hB.out⟩
set_option maxHeartbeats 1000000 in
theorem join_any (a : Option Addr) (c : Nat) (l : List Nat) (w : World) (hA : Arr w a c l) (hh : Halves l) (hl : l.length ≤ 100000) :
    Calls Tryd.prog 55 #[.slice a l.length c] w fun e w' => ∃ v, e = .returned v ∧ OwnL w' w.heap.size v (limbs (valH l)) ∧ Below w.heap.size w w' := by
  obtain ⟨i0, hi, hz0, hz1, hz2⟩ := info_parts info_u64
  obtain ⟨n, hn⟩ : ∃ n, l.length = n := ⟨_, rfl⟩
  have HA : Hid (∀ wr, Below w.heap.size w wr → Arr wr a c l) := Lib.hid fun wr h => hA.below h
  have Hn := Lib.hid hn
  have Hh := Lib.hid hh
  rw [hn] at hl ⊢
  clear hA hn hh
  go_enter Tryd.func55, Tryd.ntmps55
  go_wp2_with fail
  go_loopw [3, 4] (fun u v wr => ∃ (i k : Nat) (q : Value), Hid (i = 2 * k ∧ i ≤ n + 1) ∧ v = .int .i64 (i : Int) ∧ q = u ∧ Hid (OwnL wr w.heap.size q (joinH (l.take (2 * k)))) ∧ Hid (Below w.heap.size w wr)) (fun _ v _ => n + 1 - (intOf v).toNat)
  case atStart => exact ⟨0, 0, _, Lib.hid ⟨by omega, by omega⟩, rfl, rfl, Lib.hid (World.ownsRow_nil _ _ _ _), Lib.hid (Below.refl _ _)⟩
  case round =>
    obtain ⟨i, k, u, HK, rfl, rfl, hown, hB⟩ := hrel
    by_cases hlt : i < n
    · obtain ⟨b1, o1, ea, hc1⟩ := (HA.out wr hB.out).2.2.2 i (by have := Hn.out; omega)
      obtain ⟨x, hx⟩ : ∃ x, l.getD i 0 = x := ⟨_, rfl⟩
      have hxl : x < 4294967296 := by rw [← hx]; exact halves_get Hh.out _
      rw [hx] at hc1
      have hlen : (joinH (l.take (2 * k))).length = k := by rw [joinH_length, List.length_take, Nat.min_eq_left (by have := Hn.out; have := HK.out; omega)]; have := HK.out; omega
      obtain ⟨L, hL⟩ : ∃ L, joinH (l.take (2 * k)) = L := ⟨_, rfl⟩
      rw [hL] at hown hlen
      have HL := Lib.hid hL
      have HLn := Lib.hid hlen
      have hsz : w.heap.size ≤ wr.heap.size := hB.out.size
      have HX : Hid (l.getD (2 * k) 0 = x) := Lib.hid (by rw [← HK.out.1]; exact hx)
      subst ea
      clear hL hlen hx
      by_cases hl2 : (i : Int) + 1 < (n : Int)
      · obtain ⟨b2, o2, ea, hc2⟩ := (HA.out wr hB.out).2.2.2 (i + 1) (by have := Hn.out; omega)
        cases ea
        obtain ⟨y, hy⟩ : ∃ y, l.getD (i + 1) 0 = y := ⟨_, rfl⟩
        have hyl : y < 4294967296 := by rw [← hy]; exact halves_get Hh.out _
        rw [hy] at hc2
        obtain ⟨z, hz⟩ : ∃ z, x + y * 4294967296 = z := ⟨_, rfl⟩
        have t5 : (x : Int) + (y : Int) * 4294967296 = (z : Int) := by omega
        have HZ : Hid (l.getD (2 * k) 0 + l.getD (2 * k + 1) 0 * 4294967296 = z) := Lib.hid (by rw [HX.out, ← HK.out.1, hy]; exact hz)
        clear hy hz
        go_wp2_with (at_builtin; refine wpList_append_own _ rfl _ _ 22 rfl w.heap.size 36 i0 (.int .u64 0) 1 8 Tryd.underlying22 hi hz0 hz1 hz2 rfl (by decide) u L.length (L.map limbV) rfl (World.ownsRow.alloc hown.out _) ⟨wr.heap.size, 0, none⟩ 1 1 [limbV z] rfl rfl (one_cell _ _ _) (one_one _) (by have := HLn.out; have := HK.out; unfold maxLen; omega) (by have := HLn.out; have := HK.out; omega) (by simp; omega) ?_; intro v' w1 hown1 hgrow _)
        have HO1 := Lib.hid hown1
        have HG := Lib.hid hgrow
        clear hown1 hgrow
        go_wp2_with fail
        go_roundw
        case rel =>
          refine ⟨i + 2, k + 1, _, Lib.hid ⟨by have := HK.out; omega, by omega⟩, by go_num, rfl, Lib.hid ?_, Lib.hid ?_⟩
          · have h := HO1.out
            rw [join_step l k z (by have := Hn.out; have := HK.out; omega) HZ.out, HL.out]
            unfold OwnL
            rw [List.length_append, List.map_append]
            exact h
          · exact (hB.out.alloc hsz _).grown HG.out (by simp; omega) (by
              intro q hq
              exact (World.ownsRow.lt (show wr.ownsRow w.heap.size 36 1 u L.length (L.map limbV) from hown.out) q hq).1)
        case measure => simp [intOf]; omega
      · have HZ : Hid (l.getD (2 * k) 0 + l.getD (2 * k + 1) 0 * 4294967296 = x) := Lib.hid (by
          have e : l.getD (2 * k + 1) 0 = 0 := by simp [List.getD, List.getElem?_eq_none (show l.length ≤ 2 * k + 1 by have := Hn.out; have := HK.out; omega)]
          rw [HX.out, e]; omega)
        go_wp2_with (at_builtin; refine wpList_append_own _ rfl _ _ 22 rfl w.heap.size 36 i0 (.int .u64 0) 1 8 Tryd.underlying22 hi hz0 hz1 hz2 rfl (by decide) u L.length (L.map limbV) rfl (World.ownsRow.alloc hown.out _) ⟨wr.heap.size, 0, none⟩ 1 1 [limbV x] rfl rfl (one_cell _ _ _) (one_one _) (by have := HLn.out; have := HK.out; unfold maxLen; omega) (by have := HLn.out; have := HK.out; omega) (by simp; omega) ?_; intro v' w1 hown1 hgrow _)
        have HO1 := Lib.hid hown1
        have HG := Lib.hid hgrow
        clear hown1 hgrow
        go_wp2_with fail
        go_roundw
        case rel =>
          refine ⟨i + 2, k + 1, _, Lib.hid ⟨by have := HK.out; omega, by omega⟩, by go_num, rfl, Lib.hid ?_, Lib.hid ?_⟩
          · have h := HO1.out
            rw [join_step l k x (by have := Hn.out; have := HK.out; omega) HZ.out, HL.out]
            unfold OwnL
            rw [List.length_append, List.map_append]
            exact h
          · exact (hB.out.alloc hsz _).grown HG.out (by simp; omega) (by
              intro q hq
              exact (World.ownsRow.lt (show wr.ownsRow w.heap.size 36 1 u L.length (L.map limbV) from hown.out) q hq).1)
        case measure => simp [intOf]; omega
    · have hall : l.take (2 * k) = l := List.take_of_length_le (by have := Hn.out; have := HK.out; omega)
      have h := hown.out
      rw [hall] at h
      obtain ⟨a', c', e, harr⟩ := OwnL.arr h (joinH_limbs Hh.out)
      subst e
      have hN := rnorm_any a' c' _ wr harr (by rw [joinH_length]; have := Hn.out; omega)
      rw [valL_join] at hN
      obtain ⟨J, hJ⟩ : ∃ J, (joinH l).length = J := ⟨_, rfl⟩
      rw [hJ] at hN ⊢
      have HB := Lib.hid hB.out
      clear h harr hJ hown
      go_wp2_with fail
      refine hN.mono ?_
      rintro e w1 ⟨v, rfl, ho, hb⟩
      have HO := Lib.hid ho
      have HB1 := Lib.hid (below_step HB.out hb)
      have hs := HB.out.size
      clear hN ho hb
      go_wp2_with fail
      go_ret
      refine ⟨v, rfl, ?_, HB1.out⟩
      exact OwnL.weaken HO.out hs
end Go.Proofs.YtjfjkabmpiebpaaDoor
