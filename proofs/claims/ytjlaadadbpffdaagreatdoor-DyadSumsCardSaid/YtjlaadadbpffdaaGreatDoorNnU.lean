/-
  NatU, NatV, NatW, NatX: as one text.
-/
import Derived.Test.YtjlaadadbpffdaaGreatDoorNatT
import Derived.Test.YtjlaadadbpffdaaGreatDoorNnL
import Derived.Laws.AppendOwnNone
import Derived.Deep.AppendLies
set_option linter.unusedSimpArgs false
set_option linter.unusedVariables false
namespace Go.Plumb
theorem cut_step (l : List Nat) (i : Nat) (h : i < l.length) : cutH (l.take (i + 1)) = cutH (l.take i) ++ [l.getD i 0 % 4294967296, l.getD i 0 / 4294967296] := by
  rw [List.take_succ_eq_append_getElem h, cutH_append]
  simp [cutH, List.getD, h]
theorem halves_get {l : List Nat} (h : Halves l) (j : Nat) : l.getD j 0 < 4294967296 := by
  unfold List.getD
  cases e : l[j]? with
  | none => decide
  | some x => exact h x (List.mem_of_getElem? e)
theorem join_step (l : List Nat) (k z : Nat) (h : 2 * k < l.length) (hz : l.getD (2 * k) 0 + l.getD (2 * k + 1) 0 * 4294967296 = z) : joinH (l.take (2 * (k + 1))) = joinH (l.take (2 * k)) ++ [z] := by
  rw [← joinH_take, ← joinH_take]
  have hl : k < (joinH l).length := by rw [joinH_length]; omega
  rw [List.take_succ_eq_append_getElem hl]
  have := joinH_get l k h
  rw [hz] at this
  have e : (joinH l)[k] = z := by rw [← this]; simp [List.getD, hl]
  rw [e]
end Go.Plumb
namespace Go.Proofs.YtjlaadadbpffdaaGreatDoor
open Go.RowKit Go.Plumb

set_option maxHeartbeats 1000000 in
theorem rnorm_core (b off c n : Nat) (l : List Nat) (w : World) (hn : n = l.length) (hA : Arr w (some ⟨b, off, none⟩) c l) (hl : n ≤ 100000) (h0 : 0 < n) :
    Calls Tryz.prog 119 #[.slice (some ⟨b, off, none⟩) n c] w fun e w' => ∃ v, e = .returned v ∧ OwnL w' w.heap.size v (limbs (valL l)) ∧ Below w.heap.size w w' := by
  obtain ⟨i0, hi, hz0, hz1, hz2⟩ := info_parts info_u64
  have HA : Hid (∀ wr, Below w.heap.size w wr → Arr wr (some ⟨b, off, none⟩) c l) := Lib.hid fun wr h => hA.below h
  have Hn := Lib.hid hn
  have hnc : n ≤ c := by have := hA.1; omega
  clear hA hn
  go_enter Tryz.func119, Tryz.ntmps119
  go_wp2_with fail
  go_loop [3] (fun v => ∃ m : Nat, m ≤ n ∧ v = .int .i64 (m : Int) ∧ Hid (∀ j, m ≤ j → l.getD j 0 = 0)) (fun v => (intOf v).toNat)
  case atStart => exact ⟨n, Nat.le_refl _, rfl, Lib.hid fun j hj => by have := Hn.out; simp [List.getD, List.getElem?_eq_none (show l.length ≤ j by omega)]⟩
  case round =>
    obtain ⟨m, hm, rfl, hz⟩ := hrel
    cases m with
    | zero =>
      go_wp2_with fail
      go_ret
      have e := take_limbs (HA.out w (Below.refl _ _)).2.2.1 0 (Nat.zero_le _) hz.out (.inl rfl)
      rw [List.take_zero] at e
      rw [← e]
      exact ⟨_, rfl, World.ownsRow_nil _ _ _ _, Below.refl _ _⟩
    | succ k =>
      obtain ⟨b', off', e, hc⟩ := (HA.out w (Below.refl _ _)).2.2.2 k (by have := Hn.out; omega)
      cases e
      by_cases h0' : l.getD k 0 = 0
      · rw [h0'] at hc
        go_wp2_with fail
        go_round
        case rel => exact ⟨k, by omega, by go_num, Lib.hid fun j hj => by
          by_cases e : j = k
          · rw [e]; exact h0'
          · exact hz.out j (by omega)⟩
        case measure => simp [intOf]
      · obtain ⟨x, hx⟩ : ∃ x, l.getD k 0 = x := ⟨_, rfl⟩
        rw [hx] at hc h0'
        have hM : k + 1 = 0 ∨ l.getD (k + 1 - 1) 0 ≠ 0 := .inr (by rw [Nat.add_sub_cancel, hx]; exact h0')
        have hxz : ((x : Int) == 0) = false := by simp; omega
        have HM := Lib.hid hM
        clear hx hM
        go_wp2_with (at_builtin; refine wpList_append_own _ rfl _ _ 22 rfl w.heap.size 31 i0 (.int .u64 0) 1 8 Tryz.underlying22 hi hz0 hz1 hz2 rfl (by decide) _ 0 [] rfl (World.ownsRow_nil _ _ _ _) ⟨b, off, none⟩ (k + 1) c ((l.map limbV).take (k + 1)) rfl ?c1 ?c2 ?c3 ?c4 ?c5 ?c6 ?_)
        case c1 => exact Nat.min_eq_left (by have := Hn.out; omega)
        case c2 =>
          intro j u hj
          obtain ⟨hj1, rfl⟩ := List.getElem?_eq_some_iff.1 hj
          rw [List.length_take, List.length_map] at hj1
          obtain ⟨b', off', e, hc⟩ := arr_at (HA.out w (Below.refl _ _)) j (by omega)
          cases e
          rw [hc]
          simp [List.getD, show j < l.length by omega]
        case c3 => intro u hu; obtain ⟨x, _, rfl⟩ := List.mem_map.1 (List.mem_of_mem_take hu); rfl
        case c4 => unfold maxLen; omega
        case c5 => omega
        intro v' w1 hown hgrow hnil
        go_wp2_with fail
        go_ret
        refine ⟨v', rfl, ?_, (Below.refl _ w).grown hgrow (Nat.le_refl _) (by intro q hq; simp [Value.ownBlock] at hq)⟩
        have e := take_limbs (HA.out w (Below.refl _ _)).2.2.1 (k + 1) (by have := Hn.out; omega) hz.out HM.out
        unfold OwnL
        rw [← e, List.length_take, Nat.min_eq_left (by have := Hn.out; omega), List.map_take]
        simpa using hown
theorem rnorm_nil (a : Option Addr) (c : Nat) (w : World) :
    Calls Tryz.prog 119 #[.slice a 0 c] w fun e w' => ∃ v, e = .returned v ∧ OwnL w' w.heap.size v [] ∧ Below w.heap.size w w' := by
  cases a with
  | none =>
    go_enter Tryz.func119, Tryz.ntmps119
    go_wp2_with fail
    go_loop [3] (fun v => v = .int .i64 0) (fun v => 0)
    case atStart => rfl
    case round =>
      subst hrel
      go_wp2_with fail
      go_ret
      exact ⟨_, rfl, World.ownsRow_nil _ _ _ _, Below.refl _ _⟩
  | some ad =>
    go_enter Tryz.func119, Tryz.ntmps119
    go_wp2_with fail
    go_loop [3] (fun v => v = .int .i64 0) (fun v => 0)
    case atStart => rfl
    case round =>
      subst hrel
      go_wp2_with fail
      go_ret
      exact ⟨_, rfl, World.ownsRow_nil _ _ _ _, Below.refl _ _⟩
/-- The reference's Norm. -/
theorem rnorm_any (a : Option Addr) (c : Nat) (l : List Nat) (w : World) (hA : Arr w a c l) (hl : l.length ≤ 100000) :
    Calls Tryz.prog 119 #[.slice a l.length c] w fun e w' => ∃ v, e = .returned v ∧ OwnL w' w.heap.size v (limbs (valL l)) ∧ Below w.heap.size w w' := by
  by_cases h0 : l = []
  · subst h0
    rw [show valL [] = 0 from rfl, limbs_zero]
    exact rnorm_nil a c w
  · obtain ⟨b, off, rfl, _⟩ := hA.at h0
    exact rnorm_core b off c _ l w rfl hA hl (List.length_pos_iff.2 h0)

theorem same_len (a b : Option Addr) (c d n m : Nat) (w : World) (h : n ≠ m) :
    Calls Tryz.prog 97 #[.slice a n c, .slice b m d] w fun e w' => e = .returned (.bool false) ∧ w = w' := by
  have h1 : ((n : Int) != (m : Int)) = true := by simp; omega
  go_enter Tryz.func97, Tryz.ntmps97
  go_wp2_with fail
  go_ret
  exact ⟨rfl, rfl⟩
set_option maxHeartbeats 1000000 in
theorem same_core (a b : Option Addr) (c d n : Nat) (l m : List Nat) (w : World) (hA : Arr w a c l) (hB : Arr w b d m) (hl : l.length = n) (hm : m.length = n) (hn : n ≤ 100000) :
    Calls Tryz.prog 97 #[.slice a n c, .slice b n d] w fun e w' => ∃ bl, e = .returned (.bool bl) ∧ (bl = true ↔ l = m) ∧ Below w.heap.size w w' := by
  have HA : Hid (∀ wr, Below w.heap.size w wr → Arr wr a c l) := Lib.hid fun wr h => hA.below h
  have HB : Hid (∀ wr, Below w.heap.size w wr → Arr wr b d m) := Lib.hid fun wr h => hB.below h
  have Hl := Lib.hid hl
  have Hm := Lib.hid hm
  have h1 : ((n : Int) != (n : Int)) = false := by simp
  clear hA hB hl hm
  go_enter Tryz.func97, Tryz.ntmps97
  go_wp2_with fail
  go_loopw [5] (fun v wr => ∃ i : Nat, i ≤ n ∧ v = .int .i64 (i : Int) ∧ Hid (∀ j, j < i → l.getD j 0 = m.getD j 0) ∧ Hid (Below w.heap.size w wr)) (fun v _ => n - (intOf v).toNat)
  case atStart => exact ⟨0, Nat.zero_le _, rfl, Lib.hid fun j h => by omega, Lib.hid (Below.refl _ _)⟩
  case round =>
    obtain ⟨i, hi, rfl, hz, hB⟩ := hrel
    by_cases hlt : i < n
    · obtain ⟨b1, o1, ea, hc1⟩ := (HA.out wr hB.out).2.2.2 i (by have := Hl.out; omega)
      obtain ⟨b2, o2, eb, hc2⟩ := (HB.out wr hB.out).2.2.2 i (by have := Hm.out; omega)
      obtain ⟨x, hx⟩ : ∃ x, l.getD i 0 = x := ⟨_, rfl⟩
      obtain ⟨y, hy⟩ : ∃ y, m.getD i 0 = y := ⟨_, rfl⟩
      rw [hx] at hc1
      rw [hy] at hc2
      have HX := Lib.hid hx
      have HY := Lib.hid hy
      have z1 : (0 : Int) ≤ (i : Int) := by omega
      have z2 : (i : Int) < (n : Int) := by omega
      subst ea eb
      clear hx hy
      by_cases hxy : x = y
      · have hne : ((x : Int) != (y : Int)) = false := by simp; omega
        go_wp2_with fail
        go_quiet (fail)
        go_wp2_with fail
        go_roundw
        case rel => exact ⟨i + 1, by omega, by go_num, Lib.hid fun j hj => by
          by_cases e : j = i
          · rw [e, HX.out, HY.out, hxy]
          · exact hz.out j (by omega), Lib.hid (below_drewN hB.out _)⟩
        case measure => simp [intOf]; omega
      · have hne : ((x : Int) != (y : Int)) = true := by simp; omega
        go_wp2_with fail
        go_quiet (fail)
        go_wp2_with fail
        go_ret
        exact ⟨false, rfl, ⟨fun h => (by cases h), fun h => by have := HX.out; rw [h, HY.out] at this; omega⟩, below_drewN hB.out _⟩
    · obtain rfl : n = i := by omega
      go_wp2_with fail
      go_ret
      refine ⟨true, rfl, ⟨fun _ => ?_, fun _ => rfl⟩, hB.out⟩
      apply List.ext_getElem (by rw [Hl.out, Hm.out])
      intro j h3 h4
      have := hz.out j (by have := Hl.out; omega)
      simpa only [List.getD, List.getElem?_eq_getElem h3, List.getElem?_eq_getElem h4, Option.getD_some] using this
/-- The reference's Same. -/
theorem sameL_any (a b : Option Addr) (c d : Nat) (l m : List Nat) (w : World) (hA : Arr w a c l) (hB : Arr w b d m) (hl : l.length ≤ 100000) :
    Calls Tryz.prog 97 #[.slice a l.length c, .slice b m.length d] w fun e w' => ∃ bl, e = .returned (.bool bl) ∧ (bl = true ↔ l = m) ∧ Below w.heap.size w w' := by
  by_cases h : l.length = m.length
  · rw [← h]
    exact same_core a b c d _ l m w hA hB rfl h.symm hl
  · refine (same_len a b c d _ _ w h).mono ?_
    rintro e w' ⟨rfl, rfl⟩
    exact ⟨false, rfl, ⟨fun h => (by cases h), fun e => absurd (congrArg List.length e) h⟩, Below.refl _ _⟩
theorem digit_any (a : Option Addr) (c i : Nat) (l : List Nat) (w : World) (hA : Arr w a c l) (hi : i ≤ 9223372036854775807) :
    Calls Tryz.prog 148 #[.slice a l.length c, .int .i64 (i : Int)] w fun e w' => e = .returned (.int .u64 ((l.getD i 0 : Nat) : Int)) ∧ w = w' := by
  by_cases h : i < l.length
  · obtain ⟨b, off, rfl, hc⟩ := hA.2.2.2 i h
    obtain ⟨x, hx⟩ : ∃ x, l.getD i 0 = x := ⟨_, rfl⟩
    obtain ⟨n, hn⟩ : ∃ n, l.length = n := ⟨_, rfl⟩
    rw [hx] at hc ⊢
    rw [hn] at h ⊢
    clear hx hn hA
    go_enter Tryz.func148, Tryz.ntmps148
    go_wp2_with fail
    go_ret
    exact ⟨rfl, rfl⟩
  · rw [show l.getD i 0 = 0 by simp [List.getD, List.getElem?_eq_none (Nat.le_of_not_lt h)]]
    obtain ⟨n, hn⟩ : ∃ n, l.length = n := ⟨_, rfl⟩
    rw [hn] at h ⊢
    clear hn hA
    go_enter Tryz.func148, Tryz.ntmps148
    go_wp2_with fail
    go_ret
    exact ⟨rfl, rfl⟩
theorem own_ne {w : World} {B : Nat} {v : Value} {l : List Nat} {b : Nat} (h : OwnL w B v l) (hb : b < B) : some b ≠ v.ownBlock := fun e => by
  have := (World.ownsRow.lt (show w.ownsRow B 31 1 v l.length (l.map limbV) from h) b e.symm).1
  omega
theorem OwnL.weaken {w : World} {B B' : Nat} {v : Value} {l : List Nat} (h : OwnL w B v l) (hb : B' ≤ B) : OwnL w B' v l := by
  obtain ⟨hx, hn | ⟨g, cap, cur, e, hg, rest⟩⟩ := h
  · exact ⟨hx, .inl hn⟩
  · exact ⟨hx, .inr ⟨g, cap, cur, e, by omega, rest⟩⟩
theorem one_cell (wx : World) (x : Nat) (t : TypeId) : ∀ (j : Nat) (v : Value), [limbV x][j]? = some v → (wx.alloc (.cells #[limbV x] t)).cell? ((⟨wx.heap.size, 0, none⟩ : Addr).add j) = some v := by
  intro j v hj
  match j, hj with
  | 0, hj => simp at hj; subst hj; simp [Addr.add, go_sem, limbV]
theorem one_one (x : Nat) : ∀ v ∈ [limbV x], v.oneCell' = true := by
  intro v hv; simp at hv; subst hv; rfl
theorem two_cells (wx : World) (x y : Nat) (t : TypeId) : ∀ (j : Nat) (v : Value), [limbV x, limbV y][j]? = some v → (wx.alloc (.cells #[limbV x, limbV y] t)).cell? ((⟨wx.heap.size, 0, none⟩ : Addr).add j) = some v := by
  intro j v hj
  match j, hj with
  | 0, hj => simp at hj; subst hj; simp [Addr.add, go_sem, limbV]
  | 1, hj => simp at hj; subst hj; simp [Addr.add, go_sem, limbV]
theorem two_one (x y : Nat) : ∀ v ∈ [limbV x, limbV y], v.oneCell' = true := by
  intro v hv; simp at hv; rcases hv with rfl | rfl <;> rfl
set_option maxHeartbeats 1000000 in
theorem cut_any (a : Option Addr) (c : Nat) (l : List Nat) (w : World) (hA : Arr w a c l) (hl : l.length ≤ 100000) :
    Calls Tryz.prog 147 #[.slice a l.length c] w fun e w' => ∃ v, e = .returned v ∧ OwnL w' w.heap.size v (cutH l) ∧ Below w.heap.size w w' := by
  obtain ⟨i0, hi, hz0, hz1, hz2⟩ := info_parts info_u64
  obtain ⟨n, hn⟩ : ∃ n, l.length = n := ⟨_, rfl⟩
  have HA : Hid (∀ wr, Below w.heap.size w wr → Arr wr a c l) := Lib.hid fun wr h => hA.below h
  have Hn := Lib.hid hn
  rw [hn] at hl ⊢
  clear hA hn
  go_enter Tryz.func147, Tryz.ntmps147
  go_wp2_with fail
  go_loopw [3, 4] (fun u v wr => ∃ (i : Nat) (q : Value), i ≤ n ∧ v = .int .i64 (i : Int) ∧ q = u ∧ Hid (OwnL wr w.heap.size u (cutH (l.take i))) ∧ Hid (Below w.heap.size w wr)) (fun _ v _ => n - (intOf v).toNat)
  case atStart => exact ⟨0, _, Nat.zero_le _, rfl, rfl, Lib.hid (World.ownsRow_nil _ _ _ _), Lib.hid (Below.refl _ _)⟩
  case round =>
    obtain ⟨i, u, hi', rfl, rfl, hown, hB⟩ := hrel
    by_cases hlt : i < n
    · obtain ⟨b1, o1, ea, hc1⟩ := (HA.out wr hB.out).2.2.2 i (by have := Hn.out; omega)
      obtain ⟨x, hx⟩ : ∃ x, l.getD i 0 = x := ⟨_, rfl⟩
      rw [hx] at hc1
      have HX := Lib.hid hx
      subst ea
      clear hx
      have hlen : (cutH (l.take i)).length = 2 * i := by rw [cutH_length, List.length_take, Nat.min_eq_left (by have := Hn.out; omega)]
      have Hlen := Lib.hid hlen
      obtain ⟨L, hL⟩ : ∃ L, cutH (l.take i) = L := ⟨_, rfl⟩
      rw [hL] at hown hlen
      have HL := Lib.hid hL
      have HLn := Lib.hid hlen
      clear hL hlen
      go_wp2_with fail
      have hxl : x < 18446744073709551616 := by rw [← HX.out]; exact (HA.out wr hB.out).2.2.1.get i
      have hsz : w.heap.size ≤ wr.heap.size := hB.out.size
      have z1 : (0 : Int) ≤ (i : Int) := by omega
      have z2 : (i : Int) < (n : Int) := by omega
      obtain ⟨xl, hxlo⟩ : ∃ y, x % 4294967296 = y := ⟨_, rfl⟩
      obtain ⟨xh, hxhi⟩ : ∃ y, x / 4294967296 = y := ⟨_, rfl⟩
      have t1 : (x : Int).tmod 4294967296 = (xl : Int) := by rw [Int.tmod_eq_emod_of_nonneg (by omega)]; omega
      have t2 : (x : Int) % 4294967296 = (xl : Int) := by omega
      have t3 : (x : Int) / 4294967296 = (xh : Int) := by omega
      have t4 : IntKind.u64.wrap (xh : Int) = (xh : Int) := by rw [IntKind.wrap_u64]; omega
      have HXL := Lib.hid (show l.getD i 0 % 4294967296 = xl ∧ l.getD i 0 / 4294967296 = xh by rw [HX.out]; exact ⟨hxlo, hxhi⟩)
      clear hxlo hxhi
      have hb1 : b1 < w.heap.size := by
        obtain ⟨q1, q2, e, hc⟩ := (HA.out w (Below.refl _ _)).2.2.2 i (by have := Hn.out; omega)
        cases e
        exact cell_lt hc
      have hne1 : some b1 ≠ u.ownBlock := own_ne hown.out hb1
      go_region_held3 (fun wx => wx.cell? ⟨b1, o1 + i, none⟩ = some (.int .u64 (x : Int))) (first | exact hc1 | exact d0 | go_keep) ((first | (refine step_append_lies _ rfl _ _ 22 rfl w.heap.size 31 i0 (.int .u64 0) 1 8 Tryz.underlying22 hi hz0 hz1 hz2 rfl (by decide) u L.length (L.map limbV) rfl (World.ownsRow.drew (World.ownsRow.alloc hown.out _)) ⟨wr.heap.size, 0, none⟩ 2 2 [limbV xl, limbV xh] rfl rfl (two_cells _ _ _ _) (two_one _ _) (by decide) (by have := HLn.out; unfold maxLen; omega) (by have := HLn.out; omega) (by simp; omega) _ rfl ?_; intro g cap w1 hown1 hgrow hat hlt1; have d0 := hgrow.cell (a := ⟨b1, o1 + i, none⟩) (Lib.cell?_alloc_some _ hc1) hne1; have HO1 := Lib.hid hown1; have HG := Lib.hid hgrow; clear hown1 hgrow hat hlt1)))
      all_goals go_wp2_with fail
      all_goals go_roundw
      case rel =>
        refine ⟨i + 1, _, by omega, by go_num, rfl, Lib.hid ?_, Lib.hid ?_⟩
        · have h := HO1.out
          rw [cut_step l i (by have := Hn.out; omega), HL.out, HXL.out.1, HXL.out.2]
          unfold OwnL
          rw [List.length_append, List.map_append]
          exact h
        · exact ((hB.out.alloc hsz _).drew).grown HG.out (by simp; omega) (by
            intro q hq
            exact (World.ownsRow.lt (show wr.ownsRow w.heap.size 31 1 u L.length (L.map limbV) from hown.out) q hq).1)
      case measure => simp [intOf]; omega
    · obtain rfl : n = i := by omega
      go_wp2_with fail
      go_ret
      have h := hown.out
      rw [List.take_of_length_le (by rw [Hn.out]; exact Nat.le_refl _)] at h
      exact ⟨u, rfl, h, hB.out⟩
set_option maxHeartbeats 1000000 in
theorem joinL_any (a : Option Addr) (c : Nat) (l : List Nat) (w : World) (hA : Arr w a c l) (hh : Halves l) (hl : l.length ≤ 100000) :
    Calls Tryz.prog 149 #[.slice a l.length c] w fun e w' => ∃ v, e = .returned v ∧ OwnL w' w.heap.size v (limbs (valH l)) ∧ Below w.heap.size w w' := by
  obtain ⟨i0, hi, hz0, hz1, hz2⟩ := info_parts info_u64
  obtain ⟨n, hn⟩ : ∃ n, l.length = n := ⟨_, rfl⟩
  have HA : Hid (∀ wr, Below w.heap.size w wr → Arr wr a c l) := Lib.hid fun wr h => hA.below h
  have Hn := Lib.hid hn
  have Hh := Lib.hid hh
  rw [hn] at hl ⊢
  clear hA hn hh
  go_enter Tryz.func149, Tryz.ntmps149
  go_wp2_with fail
  go_loopw [3, 4] (fun u v wr => ∃ (i k : Nat) (q : Value), Hid (i = 2 * k ∧ i ≤ n + 1) ∧ v = .int .i64 (i : Int) ∧ q = u ∧ Hid (OwnL wr w.heap.size q (joinH (l.take (2 * k)))) ∧ Hid (Below w.heap.size w wr)) (fun _ v _ => n + 1 - (intOf v).toNat)
  case atStart => exact ⟨0, 0, _, Lib.hid ⟨by omega, by omega⟩, rfl, rfl, Lib.hid (World.ownsRow_nil _ _ _ _), Lib.hid (Below.refl _ _)⟩
  case round =>
    obtain ⟨i, k, u, HK, rfl, rfl, hown, hB⟩ := hrel
    by_cases hlt : i < n
    · obtain ⟨b1, o1, ea, hc1⟩ := (HA.out wr hB.out).2.2.2 i (by have := Hn.out; omega)
      obtain ⟨x, hx⟩ : ∃ x, l.getD i 0 = x := ⟨_, rfl⟩
      have hxl : x < 4294967296 := by rw [← hx]; exact halves_get Hh.out _
      rw [hx] at hc1
      have hlen : (joinH (l.take (2 * k))).length = k := by rw [joinH_length, List.length_take, Nat.min_eq_left (by have := Hn.out; have := HK.out; omega)]; have := HK.out; omega
      obtain ⟨L, hL⟩ : ∃ L, joinH (l.take (2 * k)) = L := ⟨_, rfl⟩
      rw [hL] at hown hlen
      have HL := Lib.hid hL
      have HLn := Lib.hid hlen
      have hsz : w.heap.size ≤ wr.heap.size := hB.out.size
      have HX : Hid (l.getD (2 * k) 0 = x) := Lib.hid (by rw [← HK.out.1]; exact hx)
      subst ea
      clear hL hlen hx
      by_cases hl2 : (i : Int) + 1 < (n : Int)
      · obtain ⟨b2, o2, ea, hc2⟩ := (HA.out wr hB.out).2.2.2 (i + 1) (by have := Hn.out; omega)
        cases ea
        obtain ⟨y, hy⟩ : ∃ y, l.getD (i + 1) 0 = y := ⟨_, rfl⟩
        have hyl : y < 4294967296 := by rw [← hy]; exact halves_get Hh.out _
        rw [hy] at hc2
        obtain ⟨z, hz⟩ : ∃ z, x + y * 4294967296 = z := ⟨_, rfl⟩
        have t5 : (x : Int) + (y : Int) * 4294967296 = (z : Int) := by omega
        have HZ : Hid (l.getD (2 * k) 0 + l.getD (2 * k + 1) 0 * 4294967296 = z) := Lib.hid (by rw [HX.out, ← HK.out.1, hy]; exact hz)
        clear hy hz
        go_wp2_with (at_builtin; refine wpList_append_own _ rfl _ _ 22 rfl w.heap.size 31 i0 (.int .u64 0) 1 8 Tryz.underlying22 hi hz0 hz1 hz2 rfl (by decide) u L.length (L.map limbV) rfl (World.ownsRow.alloc hown.out _) ⟨wr.heap.size, 0, none⟩ 1 1 [limbV z] rfl rfl (one_cell _ _ _) (one_one _) (by have := HLn.out; have := HK.out; unfold maxLen; omega) (by have := HLn.out; have := HK.out; omega) (by simp; omega) ?_; intro v' w1 hown1 hgrow _)
        have HO1 := Lib.hid hown1
        have HG := Lib.hid hgrow
        clear hown1 hgrow
        go_wp2_with fail
        go_roundw
        case rel =>
          refine ⟨i + 2, k + 1, _, Lib.hid ⟨by have := HK.out; omega, by omega⟩, by go_num, rfl, Lib.hid ?_, Lib.hid ?_⟩
          · have h := HO1.out
            rw [join_step l k z (by have := Hn.out; have := HK.out; omega) HZ.out, HL.out]
            unfold OwnL
            rw [List.length_append, List.map_append]
            exact h
          · exact (hB.out.alloc hsz _).grown HG.out (by simp; omega) (by
              intro q hq
              exact (World.ownsRow.lt (show wr.ownsRow w.heap.size 31 1 u L.length (L.map limbV) from hown.out) q hq).1)
        case measure => simp [intOf]; omega
      · have HZ : Hid (l.getD (2 * k) 0 + l.getD (2 * k + 1) 0 * 4294967296 = x) := Lib.hid (by
          have e : l.getD (2 * k + 1) 0 = 0 := by simp [List.getD, List.getElem?_eq_none (show l.length ≤ 2 * k + 1 by have := Hn.out; have := HK.out; omega)]
          rw [HX.out, e]; omega)
        go_wp2_with (at_builtin; refine wpList_append_own _ rfl _ _ 22 rfl w.heap.size 31 i0 (.int .u64 0) 1 8 Tryz.underlying22 hi hz0 hz1 hz2 rfl (by decide) u L.length (L.map limbV) rfl (World.ownsRow.alloc hown.out _) ⟨wr.heap.size, 0, none⟩ 1 1 [limbV x] rfl rfl (one_cell _ _ _) (one_one _) (by have := HLn.out; have := HK.out; unfold maxLen; omega) (by have := HLn.out; have := HK.out; omega) (by simp; omega) ?_; intro v' w1 hown1 hgrow _)
        have HO1 := Lib.hid hown1
        have HG := Lib.hid hgrow
        clear hown1 hgrow
        go_wp2_with fail
        go_roundw
        case rel =>
          refine ⟨i + 2, k + 1, _, Lib.hid ⟨by have := HK.out; omega, by omega⟩, by go_num, rfl, Lib.hid ?_, Lib.hid ?_⟩
          · have h := HO1.out
            rw [join_step l k x (by have := Hn.out; have := HK.out; omega) HZ.out, HL.out]
            unfold OwnL
            rw [List.length_append, List.map_append]
            exact h
          · exact (hB.out.alloc hsz _).grown HG.out (by simp; omega) (by
              intro q hq
              exact (World.ownsRow.lt (show wr.ownsRow w.heap.size 31 1 u L.length (L.map limbV) from hown.out) q hq).1)
        case measure => simp [intOf]; omega
    · have hall : l.take (2 * k) = l := List.take_of_length_le (by have := Hn.out; have := HK.out; omega)
      have h := hown.out
      rw [hall] at h
      obtain ⟨a', c', e, harr⟩ := OwnL.arr h (joinH_limbs Hh.out)
      subst e
      have hN := rnorm_any a' c' _ wr harr (by rw [joinH_length]; have := Hn.out; omega)
      rw [valL_join] at hN
      obtain ⟨J, hJ⟩ : ∃ J, (joinH l).length = J := ⟨_, rfl⟩
      rw [hJ] at hN ⊢
      have HB := Lib.hid hB.out
      clear h harr hJ hown
      go_wp2_with fail
      refine hN.mono ?_
      rintro e w1 ⟨v, rfl, ho, hb⟩
      have HO := Lib.hid ho
      have HB1 := Lib.hid (below_step HB.out hb)
      have hs := HB.out.size
      clear hN ho hb
      go_wp2_with fail
      go_ret
      refine ⟨v, rfl, ?_, HB1.out⟩
      exact OwnL.weaken HO.out hs
end Go.Proofs.YtjlaadadbpffdaaGreatDoor

namespace Go.Plumb
theorem halves_limbs {l : List Nat} (h : Halves l) : Limbs l := fun x hx => by have := h x hx; omega
theorem valH_take_any (l : List Nat) (k : Nat) : valH (l.take (k + 1)) = valH (l.take k) + 4294967296 ^ k * l.getD k 0 := by
  by_cases h : k < l.length
  · exact valH_take_succ l k h
  · have e : l.getD k 0 = 0 := by simp [List.getD, List.getElem?_eq_none (Nat.le_of_not_lt h)]
    rw [e, List.take_of_length_le (by omega), List.take_of_length_le (by omega)]; omega
theorem valH_one (x : Nat) : valH [x] = x := by simp [valH]
theorem Halves.snoc {l : List Nat} {x : Nat} (h : Halves l) (hx : x < 4294967296) : Halves (l ++ [x]) := by
  intro y hy
  rcases List.mem_append.1 hy with hy | hy
  · exact h y hy
  · simp at hy; subst hy; exact hx
theorem addH_step (la lb os : List Nat) (i cy x y s : Nat) (hos : os.length = i) (hv : valH os + 4294967296 ^ i * cy = valH (la.take i) + valH (lb.take i)) (hx : la.getD i 0 = x) (hy : lb.getD i 0 = y) (hs : x + y + cy = s) :
    valH (os ++ [s % 4294967296]) + 4294967296 ^ (i + 1) * (s / 4294967296) = valH (la.take (i + 1)) + valH (lb.take (i + 1)) := by
  rw [valH_append, hos, valH_take_any la i, valH_take_any lb i, hx, hy, valH_one, Nat.pow_succ, Nat.mul_assoc]
  have e2 : s % 4294967296 + 4294967296 * (s / 4294967296) = x + y + cy := by omega
  have e3 := congrArg (4294967296 ^ i * ·) e2
  simp only [Nat.mul_add] at e3 ⊢
  omega
end Go.Plumb
namespace Go.Proofs.YtjlaadadbpffdaaGreatDoor
open Go.RowKit Go.Plumb

theorem limbs_eq_iff {A B : Nat} (h : (limbs A).length = (limbs B).length) (he : ∀ j, j < (limbs A).length → (limbs A).getD j 0 = (limbs B).getD j 0) : A = B := by
  apply limbs_inj
  apply List.ext_getElem h
  intro j h3 h4
  have := he j h3
  simpa only [List.getD, List.getElem?_eq_getElem h3, List.getElem?_eq_getElem h4, Option.getD_some] using this
theorem limbs_less {A B : Nat} (h : (limbs A).length = (limbs B).length) (k : Nat) (hk : k < (limbs A).length) (he : ∀ j, k < j → j < (limbs A).length → (limbs A).getD j 0 = (limbs B).getD j 0) (hlt : (limbs A).getD k 0 < (limbs B).getD k 0) : A < B := by
  have hd : (limbs A).drop (k + 1) = (limbs B).drop (k + 1) := by
    apply List.ext_getElem (by simp; omega)
    intro j h3 h4
    simp only [List.length_drop] at h3 h4
    have := he (k + 1 + j) (by omega) (by omega)
    simp only [List.getD, List.getElem?_eq_getElem (show k + 1 + j < (limbs A).length by omega), List.getElem?_eq_getElem (show k + 1 + j < (limbs B).length by omega), Option.getD_some] at this
    rw [List.getElem_drop, List.getElem_drop]
    exact this
  have := valL_lt_of (limbs_limbs A) h k hk hd hlt
  rwa [valL_limbs, valL_limbs] at this
set_option maxHeartbeats 2000000 in
/-- The reference's Cmp. -/
theorem rcmp_any (a b : Option Addr) (c d : Nat) (l m : List Nat) (w : World) (hA : Arr w a c l) (hB : Arr w b d m) (hl : l.length ≤ 100000) (hm : m.length ≤ 100000) :
    Calls Tryz.prog 90 #[.slice a l.length c, .slice b m.length d] w fun e w' => e = .returned (.int .i64 (cmpN (valL l) (valL m))) ∧ Below w.heap.size w w' := by
  have hN1 := rnorm_any a c l w hA hl
  have HB : Hid (∀ wr, Below w.heap.size w wr → Arr wr b d m) := Lib.hid fun wr h => hB.below h
  have Hm := Lib.hid hm
  have hl1 := limbs_length_le hA.2.2.1
  have hl2 := limbs_length_le hB.2.2.1
  obtain ⟨A, hAe⟩ : ∃ A, valL l = A := ⟨_, rfl⟩
  obtain ⟨B, hBe⟩ : ∃ B, valL m = B := ⟨_, rfl⟩
  rw [hAe] at hN1 hl1 ⊢
  rw [hBe] at hl2 ⊢
  obtain ⟨n1, hn1⟩ : ∃ n, (limbs A).length = n := ⟨_, rfl⟩
  obtain ⟨n2, hn2⟩ : ∃ n, (limbs B).length = n := ⟨_, rfl⟩
  obtain ⟨N, hN⟩ : ∃ n, l.length = n := ⟨_, rfl⟩
  obtain ⟨M, hM⟩ : ∃ n, m.length = n := ⟨_, rfl⟩
  have HBe := Lib.hid hBe
  have Hn1 := Lib.hid hn1
  have Hn2 := Lib.hid hn2
  have HM := Lib.hid hM
  rw [hN] at hN1 hl1 hl ⊢
  rw [hM] at hm hl2 ⊢
  have k1 : n1 ≤ 100000 := by omega
  have k2 : n2 ≤ 100000 := by omega
  have K1 := Lib.hid k1
  have K2 := Lib.hid k2
  clear hA hB hAe hBe hn1 hn2 hN hM hl1 hl2 hl hm k1 k2
  go_enter Tryz.func90, Tryz.ntmps90
  go_wp2_with fail
  refine hN1.mono ?_
  rintro e w1 ⟨v1, rfl, ho1, hb1⟩
  obtain ⟨a1, c1, rfl⟩ := OwnL.shape ho1
  have hN2 := rnorm_any b d m w1 (HB.out w1 hb1) Hm.out
  rw [HM.out, HBe.out] at hN2
  have HA1 := Lib.hid (OwnL.arr' ho1 (limbs_limbs A))
  have HB1 := Lib.hid hb1
  rw [Hn1.out]
  clear hN1 ho1 hb1
  go_wp2_with fail
  refine hN2.mono ?_
  rintro e w2 ⟨v2, rfl, ho2, hb2⟩
  obtain ⟨b1, d1, rfl⟩ := OwnL.shape ho2
  have HA2 : Hid (∀ wr, Below w2.heap.size w2 wr → Arr wr a1 c1 (limbs A)) := Lib.hid fun wr h => (HA1.out.below hb2).below h
  have HB2 : Hid (∀ wr, Below w2.heap.size w2 wr → Arr wr b1 d1 (limbs B)) := Lib.hid fun wr h => (OwnL.arr' ho2 (limbs_limbs B)).below h
  have HBW := Lib.hid (below_step HB1.out hb2)
  rw [Hn2.out]
  clear hN2 ho2 hb2
  by_cases h1 : n1 < n2
  · have e : cmpN A B = -1 := by
      have := lt_of_length (a := A) (b := B) (by rw [Hn1.out, Hn2.out]; exact h1)
      unfold cmpN; rw [if_pos this]
    have z1 : ((n1 : Int) != (n2 : Int)) = true := by simp; omega
    have z2 : (n1 : Int) < (n2 : Int) := by omega
    have He := Lib.hid e
    clear h1 e
    go_wp2_with fail
    go_ret
    exact ⟨ret_int' He.out.symm, HBW.out⟩
  · by_cases h2 : n2 < n1
    · have e : cmpN A B = 1 := by
        have := lt_of_length (a := B) (b := A) (by rw [Hn1.out, Hn2.out]; exact h2)
        unfold cmpN; rw [if_neg (by omega), if_pos this]
      have z1 : ((n1 : Int) != (n2 : Int)) = true := by simp; omega
      have z2 : ¬ (n1 : Int) < (n2 : Int) := by omega
      have He := Lib.hid e
      clear h1 h2 e
      go_wp2_with fail
      go_ret
      exact ⟨ret_int' He.out.symm, HBW.out⟩
    · obtain rfl : n2 = n1 := by omega
      have z1 : ((n2 : Int) != (n2 : Int)) = false := by simp
      have k63 : n2 ≤ 9223372036854775807 := by have := K1.out; omega
      clear h1 h2
      go_wp2_with fail
      go_loopw [5] (fun v wr => ∃ m : Nat, m ≤ n2 ∧ v = .int .i64 ((m : Int) - 1) ∧ Hid (∀ j, m ≤ j → j < n2 → (limbs A).getD j 0 = (limbs B).getD j 0) ∧ Hid (Below w2.heap.size w2 wr)) (fun v _ => (intOf v + 1).toNat)
      case atStart => exact ⟨n2, Nat.le_refl _, rfl, Lib.hid fun j h1 h2 => by omega, Lib.hid (Below.refl _ _)⟩
      case round =>
        obtain ⟨m, hm, rfl, hz, hB⟩ := hrel
        cases m with
        | zero =>
          have He : Hid (cmpN A B = 0) := Lib.hid (by
            have : A = B := limbs_eq_iff (by rw [Hn1.out, Hn2.out]) (fun j hj => hz.out j (Nat.zero_le _) (by rw [Hn1.out] at hj; exact hj))
            subst this; unfold cmpN; simp)
          go_wp2_with fail
          go_ret
          exact ⟨ret_int' He.out.symm, below_step HBW.out hB.out⟩
        | succ k =>
          obtain ⟨q1, o1, ea, hc1⟩ := (HA2.out wr hB.out).2.2.2 k (by rw [Hn1.out]; omega)
          obtain ⟨q2, o2, eb, hc2⟩ := (HB2.out wr hB.out).2.2.2 k (by rw [Hn2.out]; omega)
          obtain ⟨x, hx⟩ : ∃ x, (limbs A).getD k 0 = x := ⟨_, rfl⟩
          obtain ⟨y, hy⟩ : ∃ y, (limbs B).getD k 0 = y := ⟨_, rfl⟩
          rw [hx] at hc1
          rw [hy] at hc2
          have HX := Lib.hid hx
          have HY := Lib.hid hy
          have ek : ((k + 1 : Nat) : Int) - 1 = (k : Int) := by omega
          rw [ek]
          have z2 : (0 : Int) ≤ (k : Int) := by omega
          have z3 : (k : Int) < (n2 : Int) := by omega
          have HK : Hid (k < n2) := Lib.hid (by omega)
          subst ea eb
          clear hx hy ek hm
          by_cases h1 : (x : Int) < (y : Int)
          · have He : Hid (cmpN A B = -1) := Lib.hid (by
              have := limbs_less (A := A) (B := B) (by rw [Hn1.out, Hn2.out]) k (by rw [Hn1.out]; exact HK.out) (fun j h2 h3 => hz.out j (by omega) (by rw [Hn1.out] at h3; exact h3)) (by rw [HX.out, HY.out]; omega)
              unfold cmpN; rw [if_pos this])
            go_wp2_with fail
            go_quiet (fail)
            go_wp2_with fail
            go_ret
            exact ⟨ret_int' He.out.symm, below_step HBW.out (below_drewN hB.out _)⟩
          · by_cases h2 : (y : Int) < (x : Int)
            · have He : Hid (cmpN A B = 1) := Lib.hid (by
                have := limbs_less (A := B) (B := A) (by rw [Hn1.out, Hn2.out]) k (by rw [Hn2.out]; exact HK.out) (fun j h2 h3 => (hz.out j (by omega) (by rw [Hn2.out] at h3; exact h3)).symm) (by rw [HX.out, HY.out]; omega)
                unfold cmpN; rw [if_neg (by omega), if_pos this])
              go_wp2_with fail
              go_quiet (fail)
              go_wp2_with fail
              go_quiet (fail)
              go_wp2_with fail
              go_ret
              exact ⟨ret_int' He.out.symm, below_step HBW.out (by (repeat' (first | exact Below.refl _ _ | assumption | (refine below_alloc ?_ _) | (refine Below.setCell ?_ ?_ _) | (refine Below.drew ?_) | (refine below_drewN ?_ _))) <;> (first | (simp; done) | (simp; omega) | omega))⟩
            · have hxy : x = y := by omega
              have HXY := Lib.hid hxy
              clear hxy
              go_wp2_with fail
              go_quiet (fail)
              go_wp2_with fail
              go_quiet (fail)
              go_wp2_with fail
              go_roundw
              case rel =>
                refine ⟨k, by have := HK.out; omega, rfl, Lib.hid fun j h3 h4 => ?_, Lib.hid (by have h := hB.out; (repeat' (first | exact Below.refl _ _ | assumption | (refine below_alloc ?_ _) | (refine Below.setCell ?_ ?_ _) | (refine Below.drew ?_) | (refine below_drewN ?_ _))) <;> (first | (simp; done) | (simp; omega) | omega))⟩
                by_cases hj : j = k
                · subst hj; rw [HX.out, HY.out, HXY.out]
                · exact hz.out j (by omega) h4
              case measure => simp [intOf]
theorem halves_nil : Halves [] := fun x hx => by cases hx
theorem own_snoc {w : World} {B : Nat} {v : Value} {l : List Nat} {x : Nat} (h : w.ownsRow B 31 1 v (l.length + 1) (l.map limbV ++ [limbV x])) : OwnL w B v (l ++ [x]) := by
  unfold OwnL
  rw [List.length_append, List.map_append]
  exact h
theorem below_snoc {w0 w w9 : World} {v : Value} {l : List Nat} {o : Obj} (hB : Below w0.heap.size w0 w) (h : OwnL w w0.heap.size v l) (hg : (w.alloc o).grownBy w9 v.ownBlock) : Below w0.heap.size w0 w9 := by
  refine (hB.alloc hB.size _).grown hg (by have := hB.size; simp; omega) ?_
  intro q hq
  exact (World.ownsRow.lt (show w.ownsRow w0.heap.size 31 1 v l.length (l.map limbV) from h) q hq).1
set_option maxHeartbeats 2000000 in
/-- The reference's Add. -/
theorem radd_any (a b : Option Addr) (c d : Nat) (l m : List Nat) (w : World) (hA : Arr w a c l) (hB : Arr w b d m) (hl : l.length ≤ 10000) (hm : m.length ≤ 10000) :
    Calls Tryz.prog 88 #[.slice a l.length c, .slice b m.length d] w fun e w' => ∃ v, e = .returned v ∧ OwnL w' w.heap.size v (limbs (valL l + valL m)) ∧ Below w.heap.size w w' := by
  obtain ⟨i0, hi, hz0, hz1, hz2⟩ := info_parts info_u64
  have hC1 := cut_any a c l w hA (by omega)
  have HB : Hid (∀ wr, Below w.heap.size w wr → Arr wr b d m) := Lib.hid fun wr h => hB.below h
  have HlimA := Lib.hid hA.2.2.1
  have HlimB := Lib.hid hB.2.2.1
  obtain ⟨xs, hxs⟩ : ∃ xs, cutH l = xs := ⟨_, rfl⟩
  obtain ⟨ys, hys⟩ : ∃ ys, cutH m = ys := ⟨_, rfl⟩
  rw [hxs] at hC1
  obtain ⟨nx, hnx⟩ : ∃ n, xs.length = n := ⟨_, rfl⟩
  obtain ⟨ny, hny⟩ : ∃ n, ys.length = n := ⟨_, rfl⟩
  have HXS : Hid (valH xs = valL l ∧ Halves xs ∧ xs.length = nx) := Lib.hid ⟨by rw [← hxs, valH_cut], by rw [← hxs]; exact cutH_halves hA.2.2.1, hnx⟩
  have HYS : Hid (valH ys = valL m ∧ Halves ys ∧ ys.length = ny) := Lib.hid ⟨by rw [← hys, valH_cut], by rw [← hys]; exact cutH_halves hB.2.2.1, hny⟩
  have hxb : nx ≤ 20000 := by rw [← hnx, ← hxs, cutH_length]; omega
  have hyb : ny ≤ 20000 := by rw [← hny, ← hys, cutH_length]; omega
  have Hys := Lib.hid hys
  have Hm := Lib.hid hm
  obtain ⟨M, hM⟩ : ∃ n, m.length = n := ⟨_, rfl⟩
  have HM := Lib.hid hM
  rw [hM]
  clear hA hB hxs hys hnx hny hM hm
  go_enter Tryz.func88, Tryz.ntmps88
  go_wp2_with fail
  refine hC1.mono ?_
  rintro e w1 ⟨v1, rfl, ho1, hb1⟩
  have hC2 := cut_any b d m w1 (HB.out w1 hb1) (by have := Hm.out; omega)
  rw [Hys.out, HM.out] at hC2
  obtain ⟨a1, c1, rfl⟩ := OwnL.shape ho1
  have HA1 := Lib.hid (OwnL.arr' ho1 (halves_limbs HXS.out.2.1))
  have HB1 := Lib.hid hb1
  rw [HXS.out.2.2]
  clear hC1 ho1 hb1
  go_wp2_with fail
  refine hC2.mono ?_
  rintro e w2 ⟨v2, rfl, ho2, hb2⟩
  obtain ⟨b1, d1, rfl⟩ := OwnL.shape ho2
  have HX : Hid (∀ wr, Below w2.heap.size w2 wr → Arr wr a1 c1 xs) := Lib.hid fun wr h => (HA1.out.below hb2).below h
  have HY : Hid (∀ wr, Below w2.heap.size w2 wr → Arr wr b1 d1 ys) := Lib.hid fun wr h => (OwnL.arr' ho2 (halves_limbs HYS.out.2.1)).below h
  have HBW := Lib.hid (below_step HB1.out hb2)
  rw [HYS.out.2.2]
  clear hC2 ho2 hb2
  go_wp2_with fail
  go_loopw [7, 8, 9] (fun u cv v wr => ∃ (i : Nat) (os : List Nat) (cy : Nat) (q : Value), Hid (i ≤ nx ∨ i ≤ ny) ∧ v = .int .i64 (i : Int) ∧ cv = .int .u64 (cy : Int) ∧ q = u ∧ Hid (os.length = i ∧ Halves os ∧ cy ≤ 1 ∧ valH os + 4294967296 ^ i * cy = valH (xs.take i) + valH (ys.take i)) ∧ Hid (OwnL wr w2.heap.size q os) ∧ Hid (Below w2.heap.size w2 wr)) (fun _ _ v _ => nx + ny - (intOf v).toNat)
  case atStart => exact ⟨0, [], 0, _, Lib.hid (.inl (Nat.zero_le _)), rfl, rfl, rfl, Lib.hid ⟨rfl, halves_nil, Nat.zero_le _, by simp [valH]⟩, Lib.hid (World.ownsRow_nil _ _ _ _), Lib.hid (Below.refl _ _)⟩
  case round =>
    obtain ⟨i, os, cy, u, Hi, rfl, rfl, rfl, hR, hown, hB⟩ := hrel
    by_cases h1 : (i : Int) < (nx : Int)
    · have z1 : decide ((i : Int) < (nx : Int)) = true := by simp; omega
      have hdx := digit_any a1 c1 i xs wr (HX.out wr hB.out) (by have := Hi.out; omega)
      have hdy := digit_any b1 d1 i ys wr (HY.out wr hB.out) (by have := Hi.out; omega)
      rw [HXS.out.2.2] at hdx
      rw [HYS.out.2.2] at hdy
      obtain ⟨x, hx⟩ : ∃ x, xs.getD i 0 = x := ⟨_, rfl⟩
      obtain ⟨y, hy⟩ : ∃ y, ys.getD i 0 = y := ⟨_, rfl⟩
      have hxl : x < 4294967296 := by rw [← hx]; exact halves_get HXS.out.2.1 i
      have hyl : y < 4294967296 := by rw [← hy]; exact halves_get HYS.out.2.1 i
      rw [hx] at hdx
      rw [hy] at hdy
      obtain ⟨S, hS⟩ : ∃ S, x + y + cy = S := ⟨_, rfl⟩
      have hcy1 := hR.out.2.2.1
      have t0 : (x : Int) + (y : Int) + (cy : Int) = (S : Int) := by omega
      obtain ⟨sl, hsl⟩ : ∃ z, S % 4294967296 = z := ⟨_, rfl⟩
      obtain ⟨sh, hsh⟩ : ∃ z, S / 4294967296 = z := ⟨_, rfl⟩
      have t1 : (S : Int) % 4294967296 = (sl : Int) := by omega
      have t2 : (S : Int) / 4294967296 = (sh : Int) := by omega
      have HS : Hid (valH (os ++ [sl]) + 4294967296 ^ (i + 1) * sh = valH (xs.take (i + 1)) + valH (ys.take (i + 1)) ∧ Halves (os ++ [sl]) ∧ sh ≤ 1) := Lib.hid ⟨by rw [← hsl, ← hsh]; exact addH_step xs ys os i cy x y S hR.out.1 hR.out.2.2.2 hx hy hS, hR.out.2.1.snoc (by omega), by omega⟩
      have HLn : Hid (os.length = i ∧ i ≤ 20000) := Lib.hid ⟨hR.out.1, by have := Hi.out; omega⟩
      have hsz : w2.heap.size ≤ wr.heap.size := hB.out.size
      have hcyb : (cy : Int) ≤ 1 := by omega
      have hxi : (x : Int) < 4294967296 := by omega
      have hyi : (y : Int) < 4294967296 := by omega
      clear hx hy hS hsl hsh hcy1 hxl hyl
      go_wp2_with (first | (go_at_call 148; (with_reducible refine hdx.mono ?_); rintro e w' ⟨rfl, rfl⟩) | (go_at_call 148; (with_reducible refine hdy.mono ?_); rintro e w' ⟨rfl, rfl⟩) | (at_builtin; refine wpList_append_own _ rfl _ _ 22 rfl w2.heap.size 31 i0 (.int .u64 0) 1 8 Tryz.underlying22 hi hz0 hz1 hz2 rfl (by decide) u os.length (os.map limbV) rfl (World.ownsRow.alloc hown.out _) ⟨wr.heap.size, 0, none⟩ 1 1 [limbV sl] rfl rfl (one_cell _ _ _) (one_one _) (by have := HLn.out; unfold maxLen; omega) (by have := HLn.out; omega) (by simp; omega) ?_; intro v' w9 hown9 hgrow9 _))
      go_roundw
      case rel => exact ⟨i + 1, os ++ [sl], sh, _, Lib.hid (.inl (by omega)), by go_num, rfl, rfl, Lib.hid ⟨by rw [List.length_append, hR.out.1]; rfl, HS.out.2.1, HS.out.2.2, HS.out.1⟩, Lib.hid (own_snoc hown9), Lib.hid (below_snoc hB.out hown.out hgrow9)⟩
      case measure => simp [intOf]; omega
    · have z1 : decide ((i : Int) < (nx : Int)) = false := by simp; omega
      by_cases h2 : (i : Int) < (ny : Int)
      · have z2 : decide ((i : Int) < (ny : Int)) = true := by simp; omega
        have hdx := digit_any a1 c1 i xs wr (HX.out wr hB.out) (by have := Hi.out; omega)
        have hdy := digit_any b1 d1 i ys wr (HY.out wr hB.out) (by have := Hi.out; omega)
        rw [HXS.out.2.2] at hdx
        rw [HYS.out.2.2] at hdy
        obtain ⟨x, hx⟩ : ∃ x, xs.getD i 0 = x := ⟨_, rfl⟩
        obtain ⟨y, hy⟩ : ∃ y, ys.getD i 0 = y := ⟨_, rfl⟩
        have hxl : x < 4294967296 := by rw [← hx]; exact halves_get HXS.out.2.1 i
        have hyl : y < 4294967296 := by rw [← hy]; exact halves_get HYS.out.2.1 i
        rw [hx] at hdx
        rw [hy] at hdy
        obtain ⟨S, hS⟩ : ∃ S, x + y + cy = S := ⟨_, rfl⟩
        have hcy1 := hR.out.2.2.1
        have t0 : (x : Int) + (y : Int) + (cy : Int) = (S : Int) := by omega
        obtain ⟨sl, hsl⟩ : ∃ z, S % 4294967296 = z := ⟨_, rfl⟩
        obtain ⟨sh, hsh⟩ : ∃ z, S / 4294967296 = z := ⟨_, rfl⟩
        have t1 : (S : Int) % 4294967296 = (sl : Int) := by omega
        have t2 : (S : Int) / 4294967296 = (sh : Int) := by omega
        have HS : Hid (valH (os ++ [sl]) + 4294967296 ^ (i + 1) * sh = valH (xs.take (i + 1)) + valH (ys.take (i + 1)) ∧ Halves (os ++ [sl]) ∧ sh ≤ 1) := Lib.hid ⟨by rw [← hsl, ← hsh]; exact addH_step xs ys os i cy x y S hR.out.1 hR.out.2.2.2 hx hy hS, hR.out.2.1.snoc (by omega), by omega⟩
        have HLn : Hid (os.length = i ∧ i ≤ 20000) := Lib.hid ⟨hR.out.1, by have := Hi.out; omega⟩
        have hsz : w2.heap.size ≤ wr.heap.size := hB.out.size
        have hcyb : (cy : Int) ≤ 1 := by omega
        have hxi : (x : Int) < 4294967296 := by omega
        have hyi : (y : Int) < 4294967296 := by omega
        clear hx hy hS hsl hsh hcy1 hxl hyl
        go_wp2_with (first | (go_at_call 148; (with_reducible refine hdx.mono ?_); rintro e w' ⟨rfl, rfl⟩) | (go_at_call 148; (with_reducible refine hdy.mono ?_); rintro e w' ⟨rfl, rfl⟩) | (at_builtin; refine wpList_append_own _ rfl _ _ 22 rfl w2.heap.size 31 i0 (.int .u64 0) 1 8 Tryz.underlying22 hi hz0 hz1 hz2 rfl (by decide) u os.length (os.map limbV) rfl (World.ownsRow.alloc hown.out _) ⟨wr.heap.size, 0, none⟩ 1 1 [limbV sl] rfl rfl (one_cell _ _ _) (one_one _) (by have := HLn.out; unfold maxLen; omega) (by have := HLn.out; omega) (by simp; omega) ?_; intro v' w9 hown9 hgrow9 _))
        go_roundw
        case rel => exact ⟨i + 1, os ++ [sl], sh, _, Lib.hid (.inr (by omega)), by go_num, rfl, rfl, Lib.hid ⟨by rw [List.length_append, hR.out.1]; rfl, HS.out.2.1, HS.out.2.2, HS.out.1⟩, Lib.hid (own_snoc hown9), Lib.hid (below_snoc hB.out hown.out hgrow9)⟩
        case measure => simp [intOf]; omega
      · have z2 : decide ((i : Int) < (ny : Int)) = false := by simp; omega
        have HLn : Hid (os.length = i ∧ i ≤ 20000) := Lib.hid ⟨hR.out.1, by have := Hi.out; omega⟩
        have hsz : w2.heap.size ≤ wr.heap.size := hB.out.size
        have HV : Hid (valH (os ++ [cy]) = valL l + valL m ∧ Halves (os ++ [cy]) ∧ (os ++ [cy]).length ≤ 20001) := Lib.hid (by
          obtain ⟨e1, e2, e3, e4⟩ := hR.out
          refine ⟨?_, e2.snoc (by omega), ?_⟩
          · rw [valH_append, valH_one, e1, e4, List.take_of_length_le (by rw [HXS.out.2.2]; omega), List.take_of_length_le (by rw [HYS.out.2.2]; omega), HXS.out.1, HYS.out.1]
          · rw [List.length_append, e1]; have := Hi.out; simp; omega)
        go_wp2_with (at_builtin; refine wpList_append_own _ rfl _ _ 22 rfl w2.heap.size 31 i0 (.int .u64 0) 1 8 Tryz.underlying22 hi hz0 hz1 hz2 rfl (by decide) u os.length (os.map limbV) rfl (World.ownsRow.alloc hown.out _) ⟨wr.heap.size, 0, none⟩ 1 1 [limbV cy] rfl rfl (one_cell _ _ _) (one_one _) (by have := HLn.out; unfold maxLen; omega) (by have := HLn.out; omega) (by simp; omega) ?_; intro v' w9 hown9 hgrow9 _)
        have ho9 := own_snoc hown9
        obtain ⟨a9, c9, e9⟩ := OwnL.shape ho9
        subst e9
        have hJ := joinL_any a9 c9 _ w9 (OwnL.arr' ho9 (halves_limbs HV.out.2.1)) HV.out.2.1 (by have := HV.out.2.2; omega)
        rw [HV.out.1] at hJ
        have HB9 := Lib.hid (below_step HBW.out (below_snoc hB.out hown.out hgrow9))
        obtain ⟨J, hJe⟩ : ∃ J, (os ++ [cy]).length = J := ⟨_, rfl⟩
        rw [hJe] at hJ ⊢
        clear ho9 hown9 hgrow9 hJe
        go_wp2_with fail
        refine hJ.mono ?_
        rintro e w10 ⟨v, rfl, ho, hb⟩
        have HO := Lib.hid (OwnL.weaken ho HB9.out.size)
        have HB10 := Lib.hid (below_step HB9.out hb)
        clear hJ ho hb
        go_wp2_with fail
        go_ret
        exact ⟨v, rfl, HO.out, HB10.out⟩
-- END radd
end Go.Proofs.YtjlaadadbpffdaaGreatDoor

namespace Go.Plumb
theorem subH_step (la lb os : List Nat) (i bo x y s : Nat) (hos : os.length = i) (hv : valH os + valH (lb.take i) = valH (la.take i) + 4294967296 ^ i * bo) (hx : la.getD i 0 = x) (hy : lb.getD i 0 = y) (hs : s + y + bo = 4294967296 + x) (hsb : s < 8589934592) :
    valH (os ++ [s % 4294967296]) + valH (lb.take (i + 1)) = valH (la.take (i + 1)) + 4294967296 ^ (i + 1) * (1 - s / 4294967296) := by
  rw [valH_append, hos, valH_take_any la i, valH_take_any lb i, hx, hy, valH_one, Nat.pow_succ, Nat.mul_assoc]
  have e2 : s % 4294967296 + y + bo = x + 4294967296 * (1 - s / 4294967296) := by omega
  have e3 := congrArg (4294967296 ^ i * ·) e2
  simp only [Nat.mul_add] at e3 ⊢
  omega
theorem subH_end (la lb os : List Nat) (n bo A B : Nat) (hA : valH la = A) (hB : valH lb = B) (hla : la.length = n) (hla2 : Halves la) (hos : os.length = n) (hl : Halves os) (hle : B ≤ A) (hv : valH os + valH (lb.take n) = valH (la.take n) + 4294967296 ^ n * bo) : valH os = A - B := by
  have h1 := valH_lt hl
  rw [hos] at h1
  have h2 := valH_lt hla2
  rw [hla, hA] at h2
  rw [← hla, List.take_length, hla, hA] at hv
  have hB2 : valH (lb.take n) = B := by
    by_cases hn : n ≤ lb.length
    · have h3 := valH_split lb n hn
      rw [hB] at h3
      have : valH (lb.drop n) = 0 := by
        apply Nat.eq_zero_of_not_pos
        intro h0
        have := Nat.mul_le_mul_left (4294967296 ^ n) (show 1 ≤ valH (lb.drop n) from h0)
        omega
      rw [this] at h3
      simpa using h3.symm
    · rw [List.take_of_length_le (by omega), hB]
  rw [hB2] at hv
  have : bo = 0 := by
    apply Nat.eq_zero_of_not_pos
    intro h0
    have := Nat.mul_le_mul_left (4294967296 ^ n) (show 1 ≤ bo from h0)
    omega
  subst this
  omega
end Go.Plumb
namespace Go.Proofs.YtjlaadadbpffdaaGreatDoor
open Go.RowKit Go.Plumb

set_option maxHeartbeats 2000000 in
/-- The reference's Sub. -/
theorem rsub_any (a b : Option Addr) (c d : Nat) (l m : List Nat) (w : World) (hA : Arr w a c l) (hB : Arr w b d m) (hl : l.length ≤ 10000) (hm : m.length ≤ 10000) (hle : valL m ≤ valL l) :
    Calls Tryz.prog 113 #[.slice a l.length c, .slice b m.length d] w fun e w' => ∃ v, e = .returned v ∧ OwnL w' w.heap.size v (limbs (valL l - valL m)) ∧ Below w.heap.size w w' := by
  have HLE := Lib.hid hle
  clear hle
  obtain ⟨i0, hi, hz0, hz1, hz2⟩ := info_parts info_u64
  have hC1 := cut_any a c l w hA (by omega)
  have HB : Hid (∀ wr, Below w.heap.size w wr → Arr wr b d m) := Lib.hid fun wr h => hB.below h
  have HlimA := Lib.hid hA.2.2.1
  have HlimB := Lib.hid hB.2.2.1
  obtain ⟨xs, hxs⟩ : ∃ xs, cutH l = xs := ⟨_, rfl⟩
  obtain ⟨ys, hys⟩ : ∃ ys, cutH m = ys := ⟨_, rfl⟩
  rw [hxs] at hC1
  obtain ⟨nx, hnx⟩ : ∃ n, xs.length = n := ⟨_, rfl⟩
  obtain ⟨ny, hny⟩ : ∃ n, ys.length = n := ⟨_, rfl⟩
  have HXS : Hid (valH xs = valL l ∧ Halves xs ∧ xs.length = nx) := Lib.hid ⟨by rw [← hxs, valH_cut], by rw [← hxs]; exact cutH_halves hA.2.2.1, hnx⟩
  have HYS : Hid (valH ys = valL m ∧ Halves ys ∧ ys.length = ny) := Lib.hid ⟨by rw [← hys, valH_cut], by rw [← hys]; exact cutH_halves hB.2.2.1, hny⟩
  have hxb : nx ≤ 20000 := by rw [← hnx, ← hxs, cutH_length]; omega
  have hyb : ny ≤ 20000 := by rw [← hny, ← hys, cutH_length]; omega
  have Hys := Lib.hid hys
  have Hm := Lib.hid hm
  obtain ⟨M, hM⟩ : ∃ n, m.length = n := ⟨_, rfl⟩
  have HM := Lib.hid hM
  rw [hM]
  clear hA hB hxs hys hnx hny hM hm
  go_enter Tryz.func113, Tryz.ntmps113
  go_wp2_with fail
  refine hC1.mono ?_
  rintro e w1 ⟨v1, rfl, ho1, hb1⟩
  have hC2 := cut_any b d m w1 (HB.out w1 hb1) (by have := Hm.out; omega)
  rw [Hys.out, HM.out] at hC2
  obtain ⟨a1, c1, rfl⟩ := OwnL.shape ho1
  have HA1 := Lib.hid (OwnL.arr' ho1 (halves_limbs HXS.out.2.1))
  have HB1 := Lib.hid hb1
  rw [HXS.out.2.2]
  clear hC1 ho1 hb1
  go_wp2_with fail
  refine hC2.mono ?_
  rintro e w2 ⟨v2, rfl, ho2, hb2⟩
  obtain ⟨b1, d1, rfl⟩ := OwnL.shape ho2
  have HX : Hid (∀ wr, Below w2.heap.size w2 wr → Arr wr a1 c1 xs) := Lib.hid fun wr h => (HA1.out.below hb2).below h
  have HY : Hid (∀ wr, Below w2.heap.size w2 wr → Arr wr b1 d1 ys) := Lib.hid fun wr h => (OwnL.arr' ho2 (halves_limbs HYS.out.2.1)).below h
  have HBW := Lib.hid (below_step HB1.out hb2)
  rw [HYS.out.2.2]
  clear hC2 ho2 hb2
  go_wp2_with fail
  go_loopw [7, 8, 9] (fun u cv v wr => ∃ (i : Nat) (os : List Nat) (bo : Nat) (q : Value), Hid (i ≤ nx) ∧ v = .int .i64 (i : Int) ∧ cv = .int .u64 (bo : Int) ∧ q = u ∧ Hid (os.length = i ∧ Halves os ∧ bo ≤ 1 ∧ valH os + valH (ys.take i) = valH (xs.take i) + 4294967296 ^ i * bo) ∧ Hid (OwnL wr w2.heap.size q os) ∧ Hid (Below w2.heap.size w2 wr)) (fun _ _ v _ => nx - (intOf v).toNat)
  case atStart => exact ⟨0, [], 0, _, Lib.hid (Nat.zero_le _), rfl, rfl, rfl, Lib.hid ⟨rfl, halves_nil, Nat.zero_le _, by simp [valH]⟩, Lib.hid (World.ownsRow_nil _ _ _ _), Lib.hid (Below.refl _ _)⟩
  case round =>
    obtain ⟨i, os, bo, u, Hi, rfl, rfl, rfl, hR, hown, hB⟩ := hrel
    by_cases h1 : (i : Int) < (nx : Int)
    · have hdy := fun k => digit_any b1 d1 i ys (wr.drewN k) (HY.out _ (below_drewN hB.out k)) (by have := Hi.out; omega)
      simp only [HYS.out.2.2] at hdy
      obtain ⟨q1, o1, ea, hc1⟩ := (HX.out wr hB.out).2.2.2 i (by rw [HXS.out.2.2]; omega)
      subst ea
      obtain ⟨x, hx⟩ : ∃ x, xs.getD i 0 = x := ⟨_, rfl⟩
      obtain ⟨y, hy⟩ : ∃ y, ys.getD i 0 = y := ⟨_, rfl⟩
      have hxl : x < 4294967296 := by rw [← hx]; exact halves_get HXS.out.2.1 i
      have hyl : y < 4294967296 := by rw [← hy]; exact halves_get HYS.out.2.1 i
      rw [hx] at hc1
      simp only [hy] at hdy
      have hbo1 := hR.out.2.2.1
      obtain ⟨S, hS⟩ : ∃ S, 4294967296 + x - y - bo = S := ⟨_, rfl⟩
      have t0 : (4294967296 : Int) + (x : Int) - (y : Int) - (bo : Int) = (S : Int) := by omega
      obtain ⟨sl, hsl⟩ : ∃ z, S % 4294967296 = z := ⟨_, rfl⟩
      obtain ⟨sh, hsh⟩ : ∃ z, 1 - S / 4294967296 = z := ⟨_, rfl⟩
      have t1 : (S : Int) % 4294967296 = (sl : Int) := by omega
      have t2 : (1 : Int) - (S : Int) / 4294967296 = (sh : Int) := by omega
      have HS : Hid (valH (os ++ [sl]) + valH (ys.take (i + 1)) = valH (xs.take (i + 1)) + 4294967296 ^ (i + 1) * sh ∧ Halves (os ++ [sl]) ∧ sh ≤ 1) := Lib.hid ⟨by rw [← hsl, ← hsh]; exact subH_step xs ys os i bo x y S hR.out.1 hR.out.2.2.2 hx hy (by omega) (by omega), hR.out.2.1.snoc (by omega), by omega⟩
      have HLn : Hid (os.length = i ∧ i ≤ 20000) := Lib.hid ⟨hR.out.1, by have := Hi.out; omega⟩
      have hsz : w2.heap.size ≤ wr.heap.size := hB.out.size
      have hboi : (bo : Int) ≤ 1 := by omega
      have hxi : (x : Int) < 4294967296 := by omega
      have hyi : (y : Int) < 4294967296 := by omega
      have hSi : (S : Int) < 8589934592 := by omega
      have z1 : (0 : Int) ≤ (i : Int) := by omega
      clear hx hy hS hsl hsh hbo1 hxl hyl
      go_wp2_with fail
      go_quiet ((go_at_call 148; exact quiet_eq (hdy _)))
      have hownx := Lib.hid (OwnL.later hown.out (below_drewN (Below.refl _ _) nq))
      have hBx := Lib.hid (below_drewN hB.out nq)
      clear hown hB hsz hc1 hdy
      generalize wr.drewN nq = wx at *
      have hown := hownx
      have hB := hBx
      clear hownx hBx
      have hsz : w2.heap.size ≤ wx.heap.size := hB.out.size
      go_wp2_with (at_builtin; refine wpList_append_own _ rfl _ _ 22 rfl w2.heap.size 31 i0 (.int .u64 0) 1 8 Tryz.underlying22 hi hz0 hz1 hz2 rfl (by decide) u os.length (os.map limbV) rfl (World.ownsRow.alloc hown.out _) ⟨wx.heap.size, 0, none⟩ 1 1 [limbV sl] rfl rfl (one_cell _ _ _) (one_one _) (by have := HLn.out; unfold maxLen; omega) (by have := HLn.out; omega) (by simp; omega) ?_; intro v' w9 hown9 hgrow9 _)
      go_roundw
      case rel => exact ⟨i + 1, os ++ [sl], sh, _, Lib.hid (by omega), by go_num, rfl, rfl, Lib.hid ⟨by rw [List.length_append, hR.out.1]; rfl, HS.out.2.1, HS.out.2.2, HS.out.1⟩, Lib.hid (own_snoc hown9), Lib.hid (below_snoc hB.out hown.out hgrow9)⟩
      case measure => simp [intOf]; omega
    · obtain ⟨a9, c9, e9⟩ := OwnL.shape hown.out
      subst e9
      have hin : i = nx := by have := Hi.out; omega
      have hvv := subH_end xs ys os nx bo _ _ HXS.out.1 HYS.out.1 HXS.out.2.2 HXS.out.2.1 (by rw [hR.out.1, hin]) hR.out.2.1 HLE.out (by rw [← hin]; exact hR.out.2.2.2)
      have hJ := joinL_any a9 c9 _ wr (OwnL.arr' hown.out (halves_limbs hR.out.2.1)) hR.out.2.1 (by rw [hR.out.1, hin]; omega)
      rw [hvv] at hJ
      have HB9 := Lib.hid (below_step HBW.out hB.out)
      obtain ⟨J, hJe⟩ : ∃ J, os.length = J := ⟨_, rfl⟩
      rw [hJe] at hJ ⊢
      clear hJe hin hvv hown
      go_wp2_with fail
      refine hJ.mono ?_
      rintro e w10 ⟨v, rfl, ho, hb⟩
      have HO := Lib.hid (OwnL.weaken ho HB9.out.size)
      have HB10 := Lib.hid (below_step HB9.out hb)
      clear hJ ho hb
      go_wp2_with fail
      go_ret
      exact ⟨v, rfl, HO.out, HB10.out⟩
end Go.Proofs.YtjlaadadbpffdaaGreatDoor

namespace Go.Plumb
theorem patchH_value (u : List Nat) (j : Nat) (r : List Nat) (h : j + r.length ≤ u.length) : valH (patch u j r) + 4294967296 ^ j * valH ((u.drop j).take r.length) = valH u + 4294967296 ^ j * valH r := by
  have h1 := valH_split u j (by omega)
  have h2 := valH_split (u.drop j) r.length (by simp; omega)
  rw [List.drop_drop] at h2
  have h3 : valH (patch u j r) = valH (u.take j) + 4294967296 ^ j * (valH r + 4294967296 ^ r.length * valH (u.drop (j + r.length))) := by
    unfold patch
    rw [List.append_assoc, valH_append, valH_append, List.length_take, Nat.min_eq_left (by omega)]
  rw [h3, h1, h2, Nat.mul_add, Nat.mul_add]
  omega
theorem mulsH_step (la lo os : List Nat) (n i cy x o S : Nat) (hos : os.length = i) (hv : valH os + 4294967296 ^ i * cy = valH (lo.take i) + valH (la.take i) * n) (hx : la.getD i 0 = x) (hy : lo.getD i 0 = o)
    (h : S = o + n * x + cy) : valH (os ++ [S % 4294967296]) + 4294967296 ^ (i + 1) * (S / 4294967296) = valH (lo.take (i + 1)) + valH (la.take (i + 1)) * n := by
  rw [valH_append, hos, valH_take_any la i, valH_take_any lo i, hx, hy, valH_one, Nat.pow_succ, Nat.mul_assoc, Nat.add_mul, Nat.mul_assoc _ x n, Nat.mul_comm x n]
  have e0 : S % 4294967296 + 4294967296 * (S / 4294967296) = o + n * x + cy := by rw [← h]; omega
  have e3 := congrArg (4294967296 ^ i * ·) e0
  simp only [Nat.mul_add] at e3 ⊢
  omega
theorem mulsH_round (la lb lo os : List Nat) (k n1 n2 cy y : Nat) (h1 : la.length = n1) (hlo : lo.length = n2 + n1 + 1) (hk : k < n2) (hz : ∀ j, k + n1 ≤ j → lo.getD j 0 = 0) (hv : valH lo = valH (lb.take k) * valH la) (hos : os.length = n1)
    (he : valH os + 4294967296 ^ n1 * cy = valH ((lo.drop k).take n1) + valH la * y) (hy : lb.getD k 0 = y) :
    valH ((patch lo k os).set (k + n1) cy) = valH (lb.take (k + 1)) * valH la ∧ (∀ j, k + 1 + n1 ≤ j → ((patch lo k os).set (k + n1) cy).getD j 0 = 0) ∧ ((patch lo k os).set (k + n1) cy).length = n2 + n1 + 1 := by
  have hpl : (patch lo k os).length = n2 + n1 + 1 := by rw [patch_length _ _ _ (by omega)]; exact hlo
  refine ⟨?_, fun j hj => ?_, by rw [List.length_set]; exact hpl⟩
  · have s1 := valH_set (patch lo k os) (k + n1) cy (by omega)
    have s2 := patchH_value lo k os (by omega)
    rw [getD_patch lo os k (k + n1) (by omega) (by omega), hz (k + n1) (Nat.le_refl _), Nat.mul_zero, Nat.add_zero] at s1
    rw [hos] at s2
    rw [valH_take_any lb k, hy, Nat.add_mul, ← hv, s1, Nat.pow_add, Nat.mul_assoc, Nat.mul_assoc]
    have e3 := congrArg (4294967296 ^ k * ·) he
    simp only [Nat.mul_add] at e3
    rw [Nat.mul_comm y]
    omega
  · unfold List.getD
    rw [List.getElem?_set_ne (by omega)]
    have := getD_patch lo os k j (by omega) (by omega)
    unfold List.getD at this
    rw [this]
    exact hz j (by omega)
theorem patch_halves {u r : List Nat} (h : Halves u) (h' : Halves r) (j : Nat) : Halves (patch u j r) := by
  intro x hx
  unfold patch at hx
  rcases List.mem_append.1 hx with hx | hx
  · rcases List.mem_append.1 hx with hx | hx
    · exact h x (List.mem_of_mem_take hx)
    · exact h' x hx
  · exact h x (List.mem_of_mem_drop hx)
theorem halves_zeros (n : Nat) : Halves (List.replicate n 0) := by
  intro y hy
  rw [(List.mem_replicate.1 hy).2]; decide
theorem Halves.set {l : List Nat} (h : Halves l) (k x : Nat) (hx : x < 4294967296) : Halves (l.set k x) := by
  intro y hy
  rcases List.mem_or_eq_of_mem_set hy with hy | rfl
  · exact h y hy
  · exact hx
end Go.Plumb
namespace Go.Proofs.YtjlaadadbpffdaaGreatDoor
open Go.RowKit Go.Plumb

set_option maxHeartbeats 2000000 in
/-- The reference's Mul. -/
theorem rmul_any (a b : Option Addr) (c d : Nat) (l m : List Nat) (w : World) (hA : Arr w a c l) (hB : Arr w b d m) (hl : l.length ≤ 10000) (hm : m.length ≤ 10000) :
    Calls Tryz.prog 91 #[.slice a l.length c, .slice b m.length d] w fun e w' => ∃ v, e = .returned v ∧ OwnL w' w.heap.size v (limbs (valL l * valL m)) ∧ Below w.heap.size w w' := by
  obtain ⟨i0, hi, hz0, hz1, hz2⟩ := info_parts info_u64
  have hC1 := cut_any a c l w hA (by omega)
  have HB : Hid (∀ wr, Below w.heap.size w wr → Arr wr b d m) := Lib.hid fun wr h => hB.below h
  have HlimA := Lib.hid hA.2.2.1
  have HlimB := Lib.hid hB.2.2.1
  obtain ⟨xs, hxs⟩ : ∃ xs, cutH l = xs := ⟨_, rfl⟩
  obtain ⟨ys, hys⟩ : ∃ ys, cutH m = ys := ⟨_, rfl⟩
  rw [hxs] at hC1
  obtain ⟨nx, hnx⟩ : ∃ n, xs.length = n := ⟨_, rfl⟩
  obtain ⟨ny, hny⟩ : ∃ n, ys.length = n := ⟨_, rfl⟩
  have HXS : Hid (valH xs = valL l ∧ Halves xs ∧ xs.length = nx) := Lib.hid ⟨by rw [← hxs, valH_cut], by rw [← hxs]; exact cutH_halves hA.2.2.1, hnx⟩
  have HYS : Hid (valH ys = valL m ∧ Halves ys ∧ ys.length = ny) := Lib.hid ⟨by rw [← hys, valH_cut], by rw [← hys]; exact cutH_halves hB.2.2.1, hny⟩
  have hxb : nx ≤ 20000 := by rw [← hnx, ← hxs, cutH_length]; omega
  have hyb : ny ≤ 20000 := by rw [← hny, ← hys, cutH_length]; omega
  have Hys := Lib.hid hys
  have Hm := Lib.hid hm
  obtain ⟨M, hM⟩ : ∃ n, m.length = n := ⟨_, rfl⟩
  have HM := Lib.hid hM
  rw [hM]
  clear hA hB hxs hys hnx hny hM hm
  go_enter Tryz.func91, Tryz.ntmps91
  go_wp2_with fail
  refine hC1.mono ?_
  rintro e w1 ⟨v1, rfl, ho1, hb1⟩
  have hC2 := cut_any b d m w1 (HB.out w1 hb1) (by have := Hm.out; omega)
  rw [Hys.out, HM.out] at hC2
  obtain ⟨a1, c1, rfl⟩ := OwnL.shape ho1
  have HA1 := Lib.hid (OwnL.arr' ho1 (halves_limbs HXS.out.2.1))
  have HB1 := Lib.hid hb1
  rw [HXS.out.2.2]
  clear hC1 ho1 hb1
  go_wp2_with fail
  refine hC2.mono ?_
  rintro e w2 ⟨v2, rfl, ho2, hb2⟩
  obtain ⟨b1, d1, rfl⟩ := OwnL.shape ho2
  have HX : Hid (∀ wr, Below w2.heap.size w2 wr → Arr wr a1 c1 xs) := Lib.hid fun wr h => (HA1.out.below hb2).below h
  have HY : Hid (∀ wr, Below w2.heap.size w2 wr → Arr wr b1 d1 ys) := Lib.hid fun wr h => (OwnL.arr' ho2 (halves_limbs HYS.out.2.1)).below h
  have HBW := Lib.hid (below_step HB1.out hb2)
  rw [HYS.out.2.2]
  clear hC2 ho2 hb2
  have hmk : ∀ w, Sem.run Tryz.prog ((Instr.makeSlice 22 (.int .i64 ((nx : Int) + ny + 1)) (.int .i64 ((nx : Int) + ny + 1)))) w = .ok (.slice (some ⟨w.heap.size, 0, none⟩) (nx + ny + 1) (nx + ny + 1)) (w.alloc (.cells (zerosA (nx + ny + 1)) 31)) := fun w => by
    have := run_makeI ((nx : Int) + ny + 1) (by omega) (by omega) w
    rwa [show ((nx : Int) + ny + 1).toNat = nx + ny + 1 by omega] at this
  go_wp2_with fail
  go_loopw [8] (fun v wr => ∃ (i : Nat) (lo : List Nat), Hid (i ≤ nx) ∧ v = .int .i64 (i : Int) ∧ Hid (lo.length = nx + ny + 1 ∧ Halves lo ∧ valH lo = valH (xs.take i) * valH ys ∧ ∀ j, i + ny ≤ j → lo.getD j 0 = 0) ∧ Hid (OwnL wr w2.heap.size (.slice (some ⟨w2.heap.size, 0, none⟩) (nx + ny + 1) (nx + ny + 1)) lo) ∧ Hid (Below w2.heap.size w2 wr)) (fun v _ => nx - (intOf v).toNat)
  case atStart =>
    have ho := owns_zeros w2 w2.heap.size (nx + ny + 1) (Nat.le_refl _) (by omega)
    refine ⟨0, List.replicate (nx + ny + 1) 0, Lib.hid (Nat.zero_le _), rfl, Lib.hid ⟨by simp, halves_zeros _, by rw [valH_replicate]; simp [valH], fun j _ => by simp [List.getD, List.getElem?_replicate]; split <;> rfl⟩, Lib.hid ?_, Lib.hid ((Below.refl _ _).alloc (Nat.le_refl _) _)⟩
    unfold OwnL
    rw [List.length_replicate]
    exact ho
  case round =>
    obtain ⟨i, lo, Hi, rfl, hR, hown, hB⟩ := hrel
    by_cases h1 : (i : Int) < (nx : Int)
    · obtain ⟨q1, o1, ea, hcx0⟩ := (HX.out wr hB.out).2.2.2 i (by rw [HXS.out.2.2]; omega)
      subst ea
      have hq1 : q1 < w2.heap.size := by
        obtain ⟨q, o, e, hc⟩ := (HX.out w2 (Below.refl _ _)).2.2.2 i (by rw [HXS.out.2.2]; omega)
        cases e
        exact cell_lt hc
      obtain ⟨x, hx⟩ : ∃ x, xs.getD i 0 = x := ⟨_, rfl⟩
      have hxl : x < 4294967296 := by rw [← hx]; exact halves_get HXS.out.2.1 i
      have HXe := Lib.hid hx
      have HXc : Hid (∀ wx, Below w2.heap.size w2 wx → wx.cell? ⟨q1, o1 + i, none⟩ = some (.int .u64 (x : Int))) := Lib.hid fun wx h => by
        obtain ⟨q, o, e, hc⟩ := (HX.out wx h).2.2.2 i (by rw [HXS.out.2.2]; omega)
        cases e
        rw [hx] at hc
        exact hc
      have hxi : (x : Int) < 4294967296 := by omega
      have HXl := Lib.hid hxl
      have hii : (i : Int) ≤ 20000 := by omega
      have hi0 : (0 : Int) ≤ (i : Int) := by omega
      clear hx hcx0 hxl
      go_wp2_with fail
      go_loopw [9, 10] (fun u v wr => ∃ (k cy : Nat) (os : List Nat), Hid (k ≤ ny) ∧ v = .int .i64 (k : Int) ∧ u = .int .u64 (cy : Int) ∧ Hid (cy < 4294967296 ∧ os.length = k ∧ Halves os ∧ valH os + 4294967296 ^ k * cy = valH ((lo.drop i).take k) + valH (ys.take k) * x) ∧ Hid (OwnL wr w2.heap.size (.slice (some ⟨w2.heap.size, 0, none⟩) (nx + ny + 1) (nx + ny + 1)) (patch lo i os)) ∧ Hid (Below w2.heap.size w2 wr)) (fun _ v _ => ny - (intOf v).toNat)
      case atStart => exact ⟨0, 0, [], Lib.hid (Nat.zero_le _), rfl, rfl, Lib.hid ⟨by decide, rfl, halves_nil, by simp [valH]⟩, Lib.hid (by rw [patch_nil]; exact hown.out), hB⟩
      case round =>
        obtain ⟨k, cy, os, Hk, rfl, rfl, hS, hownk, hBk⟩ := hrel
        by_cases h2 : (k : Int) < (ny : Int)
        · obtain ⟨q2, o2, eb, hcy⟩ := (HY.out wr hBk.out).2.2.2 k (by rw [HYS.out.2.2]; omega)
          subst eb
          have hcx := HXc.out wr hBk.out
          obtain ⟨y, hy⟩ : ∃ y, ys.getD k 0 = y := ⟨_, rfl⟩
          have hyl : y < 4294967296 := by rw [← hy]; exact halves_get HYS.out.2.1 k
          rw [hy] at hcy
          obtain ⟨o, ho⟩ : ∃ o, lo.getD (i + k) 0 = o := ⟨_, rfl⟩
          have hol : o < 4294967296 := by rw [← ho]; exact halves_get hR.out.2.1 _
          have hco : wr.cell? ⟨w2.heap.size, i + k, none⟩ = some (.int .u64 (o : Int)) := by
            have e1 := hS.out.2.1
            have e2 := hR.out.1
            refine OwnL.cell hownk.out (i + k) o ?_
            rw [← e1, patch_at lo os i (by omega), e1, List.getElem?_eq_getElem (by omega), ← ho]
            simp [List.getD, show i + k < lo.length by omega]
          have hfo := OwnL.thaw hownk.out (i + k)
          have hPb := Nat.mul_le_mul (show x ≤ 4294967295 by have := HXl.out; omega) (show y ≤ 4294967295 by omega)
          obtain ⟨P, hP⟩ : ∃ P, x * y = P := ⟨_, rfl⟩
          rw [hP] at hPb
          have dP : IntKind.u64.wrap ((x : Int) * (y : Int)) = (P : Int) := by rw [IntKind.wrap_u64, ← hP]; simp; omega
          obtain ⟨S, hSe⟩ : ∃ S, o + P + cy = S := ⟨_, rfl⟩
          have hcyl := hS.out.1
          have t0 : (o : Int) + (P : Int) + (cy : Int) = (S : Int) := by omega
          obtain ⟨sl, hsl⟩ : ∃ z, S % 4294967296 = z := ⟨_, rfl⟩
          obtain ⟨sh, hsh⟩ : ∃ z, S / 4294967296 = z := ⟨_, rfl⟩
          have t1 : (S : Int) % 4294967296 = (sl : Int) := by omega
          have t2 : (S : Int) / 4294967296 = (sh : Int) := by omega
          have HN : Hid (valH (os ++ [sl]) + 4294967296 ^ (k + 1) * sh = valH ((lo.drop i).take (k + 1)) + valH (ys.take (k + 1)) * x ∧ sl < 4294967296 ∧ sh < 4294967296) := Lib.hid ⟨by
            rw [← hsl, ← hsh]
            exact mulsH_step ys (lo.drop i) os x k cy y o S hS.out.2.1 hS.out.2.2.2 hy (by rw [getD_drop]; exact ho) (by rw [← hSe, hP]), by omega, by omega⟩
          have hoi : (o : Int) < 4294967296 := by omega
          have hPi : (P : Int) ≤ 18446744065119617025 := by omega
          have hci : (cy : Int) < 4294967296 := by omega
          have hki : (k : Int) ≤ 20000 := by omega
          have hk0 : (0 : Int) ≤ (k : Int) := by omega
          have hik0 : (0 : Int) ≤ (i : Int) + (k : Int) := by omega
          have hik1 : (i : Int) + (k : Int) < (nx : Int) + (ny : Int) + 1 := by omega
          have hik2 : ((i : Int) + (k : Int)).toNat = i + k := by omega
          have hne1 : q1 ≠ w2.heap.size := by omega
          clear hy ho hP hSe hsl hsh hcyl hyl hol hPb
          go_wp2_with fail
          go_quiet (fail)
          go_wp2_with fail
          go_roundw
          case rel =>
            refine ⟨k + 1, sh, os ++ [sl], Lib.hid (by omega), by go_num, rfl, Lib.hid ⟨HN.out.2.2, by rw [List.length_append, hS.out.2.1]; rfl, hS.out.2.2.1.snoc HN.out.2.1, HN.out.1⟩, Lib.hid ?_, Lib.hid ?_⟩
            · have e1 := hS.out.2.1
              have e2 := hR.out.1
              have h := OwnL.store (OwnL.later hownk.out (below_drewN (Below.refl _ _) nq)) (i + k) sl _ rfl
              rw [← e1, patch_set lo os i _ (by omega)] at h
              rw [← e1]
              exact h
            · exact (below_drewN hBk.out nq).setCell (Nat.le_refl _) _
          case measure => simp [intOf]; omega
        · have hkn : k = ny := by have := Hk.out; omega
          have hco : wr.cell? ⟨w2.heap.size, i + ny, none⟩ = some (.int .u64 0) := by
            have e1 := hS.out.2.1
            have e2 := hR.out.1
            refine OwnL.cell hownk.out (i + ny) 0 ?_
            rw [← hkn, ← e1, patch_at lo os i (by omega), e1, hkn, List.getElem?_eq_getElem (by omega)]
            have := hR.out.2.2.2 (i + ny) (Nat.le_refl _)
            simpa [List.getD, show i + ny < lo.length by omega] using this
          have hfo := OwnL.thaw hownk.out (i + ny)
          have hik0 : (0 : Int) ≤ (i : Int) + (ny : Int) := by omega
          have hik1 : (i : Int) + (ny : Int) < (nx : Int) + (ny : Int) + 1 := by omega
          have hik2 : ((i : Int) + (ny : Int)).toNat = i + ny := by omega
          have HMR := Lib.hid (mulsH_round ys xs lo os i ny nx cy x HYS.out.2.2 hR.out.1 (by omega) hR.out.2.2.2 hR.out.2.2.1 (by rw [hS.out.2.1]; exact hkn) (by have h := hS.out.2.2.2; rw [hkn, ← HYS.out.2.2, List.take_length, HYS.out.2.2] at h; exact h) HXe.out)
          have Hkn := Lib.hid hkn
          clear hkn
          go_wp2_with fail
          go_roundw
          case rel =>
            refine ⟨i + 1, _, Lib.hid (by omega), by go_num, Lib.hid ⟨HMR.out.2.2, ?_, HMR.out.1, HMR.out.2.1⟩, Lib.hid ?_, Lib.hid ?_⟩
            · exact (patch_halves hR.out.2.1 hS.out.2.2.1 i).set _ _ hS.out.1
            · exact OwnL.store hownk.out (i + ny) cy _ rfl
            · exact hBk.out.setCell (Nat.le_refl _) _
          case measure => simp [intOf]; omega
    · have hin : i = nx := by have := Hi.out; omega
      have hv := hR.out.2.2.1
      rw [hin, ← HXS.out.2.2, List.take_length, HXS.out.1, HYS.out.1] at hv
      have hJ := joinL_any _ _ _ wr (OwnL.arr' (by have h := hown.out; rw [← hR.out.1] at h; exact h) (halves_limbs hR.out.2.1)) hR.out.2.1 (by rw [hR.out.1]; omega)
      rw [hv, hR.out.1] at hJ
      have HB9 := Lib.hid (below_step HBW.out hB.out)
      clear hin hv hown
      go_wp2_with fail
      refine hJ.mono ?_
      rintro e w10 ⟨v, rfl, ho, hb⟩
      have HO := Lib.hid (OwnL.weaken ho HB9.out.size)
      have HB10 := Lib.hid (below_step HB9.out hb)
      clear hJ ho hb
      go_wp2_with fail
      go_ret
      exact ⟨v, rfl, HO.out, HB10.out⟩
end Go.Proofs.YtjlaadadbpffdaaGreatDoor
