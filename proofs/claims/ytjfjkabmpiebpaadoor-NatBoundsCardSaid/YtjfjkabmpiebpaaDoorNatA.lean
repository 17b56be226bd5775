/-
  Lists of limbs in memory; nat.trim, done, cmp, slices.Clone at every input.
-/
import Derived.Test.YtjfjkabmpiebpaaDoorNatL
import Derived.Test.YtjfjkabmpiebpaaDoorRows
import Derived.Test.YtjfjkabmpiebpaaDoorBase
set_option linter.unusedSimpArgs false
set_option linter.unusedVariables false
namespace Go.Plumb
open Go.RowKit
/-- A slice's elements in a world: limbs. -/
def Arr (w : World) (a : Option Addr) (c : Nat) (l : List Nat) : Prop :=
  l.length ≤ c ∧ c ≤ maxLen ∧ Limbs l ∧ ∀ j, j < l.length → ∃ b off, a = some ⟨b, off, none⟩ ∧ w.cell? ⟨b, off + j, none⟩ = some (.int .u64 ((l.getD j 0 : Nat) : Int))
theorem cell_lt {W : World} {a : Addr} {v : Value} (h : W.cell? a = some v) : a.block < W.heap.size := by
  apply Nat.lt_of_not_le
  intro hle
  have e : W.heap[a.block]? = none := Array.getElem?_eq_none hle
  simp [World.cell?, e] at h
theorem Arr.below {w w' : World} {a : Option Addr} {c : Nat} {l : List Nat} (h : Arr w a c l) (hb : Below w.heap.size w w') : Arr w' a c l := by
  obtain ⟨h1, h2, h3, h4⟩ := h
  refine ⟨h1, h2, h3, fun j hj => ?_⟩
  obtain ⟨b, off, ha, hc⟩ := h4 j hj
  have hl : b < w.heap.size := cell_lt hc
  exact ⟨b, off, ha, (hb.cell (p := ⟨b, off + j, none⟩) hl).trans hc⟩
theorem Arr.take {w : World} {a : Option Addr} {c : Nat} {l : List Nat} (h : Arr w a c l) (k : Nat) : Arr w a c (l.take k) := by
  obtain ⟨h1, h2, h3, h4⟩ := h
  refine ⟨by simp; omega, h2, h3.take k, fun j hj => ?_⟩
  have hj' : j < k ∧ j < l.length := by simpa [Nat.lt_min] using hj
  obtain ⟨b, off, ha, hc⟩ := h4 j hj'.2
  refine ⟨b, off, ha, ?_⟩
  rw [hc]; simp [List.getD, List.getElem?_take, hj'.1]
theorem Arr.nil (w : World) (a : Option Addr) (c : Nat) (hc : c ≤ maxLen) : Arr w a c [] := ⟨Nat.zero_le _, hc, Limbs.nil, fun j hj => by simp at hj⟩
def lenV : Value → Nat
  | .slice _ n _ => n
  | _ => 0
end Go.Plumb
namespace Go.Proofs.YtjfjkabmpiebpaaDoor
open Go.RowKit Go.Plumb

set_option maxHeartbeats 1000000 in
theorem trim_core (b off n c : Nat) (f : Nat → Int) (w : World) (hn : n ≤ c) (hc : c ≤ maxLen) (hf : ∀ j, j < n → w.cell? ⟨b, off + j, none⟩ = some (.int .u64 (f j))) :
    Calls Tryd.prog 60 #[.slice (some ⟨b, off, none⟩) n c] w fun e w' => ∃ m, m ≤ n ∧ (∀ j, m ≤ j → j < n → f j = 0) ∧ (m = 0 ∨ f (m - 1) ≠ 0) ∧ e = .returned (.slice (some ⟨b, off, none⟩) m c) ∧ w = w' := by
  have hc63 : c ≤ 9223372036854775807 := hc
  have HF := Lib.hid hf
  clear hf hc
  go_enter Tryd.func60, Tryd.ntmps60
  go_wp2_with fail
  go_loop [0] (fun v => ∃ m : Nat, m ≤ n ∧ v = .slice (some ⟨b, off, none⟩) m c ∧ Hid (∀ j, m ≤ j → j < n → f j = 0)) (fun v => lenV v)
  case atStart => exact ⟨n, Nat.le_refl _, rfl, Lib.hid fun j h1 h2 => by omega⟩
  case round =>
    obtain ⟨m, hm, rfl, hz⟩ := hrel
    cases m with
    | zero =>
      go_wp2_with fail
      go_ret
      exact ⟨0, Nat.zero_le _, hz.out, .inl rfl, rfl, rfl⟩
    | succ k =>
      have hcell := HF.out k (by omega)
      by_cases h0 : f k = 0
      · go_wp2_with fail
        exact ⟨⟨k, by omega, rfl, Lib.hid fun j h1 h2 => by
          by_cases hj : j = k
          · rw [hj]; exact h0
          · exact hz.out j (by omega) h2⟩, by simp [lenV]⟩
      · go_wp2_with fail
        go_ret
        exact ⟨k + 1, hm, hz.out, .inr h0, rfl, rfl⟩
theorem trim_none (a : Option Addr) (c : Nat) (w : World) :
    Calls Tryd.prog 60 #[.slice a 0 c] w fun e w' => e = .returned (.slice a 0 c) ∧ w = w' := by
  go_enter Tryd.func60, Tryd.ntmps60
  go_wp2_with fail
  go_loop [0] (fun v => v = .slice a 0 c) (fun v => lenV v)
  case atStart => rfl
  case round =>
    subst hrel
    go_wp2_with fail
    go_ret
    exact ⟨rfl, rfl⟩
/-- nat.trim: the number's own limbs, in the same memory. -/
theorem trim_any (a : Option Addr) (c : Nat) (l : List Nat) (w : World) (h : Arr w a c l) :
    Calls Tryd.prog 60 #[.slice a l.length c] w fun e w' => e = .returned (.slice a (limbs (valL l)).length c) ∧ w = w' := by
  obtain ⟨h1, h2, h3, h4⟩ := h
  by_cases h0 : l.length = 0
  · obtain rfl : l = [] := List.length_eq_zero_iff.1 h0
    have e : limbs (valL []) = [] := limbs_zero
    rw [e]
    exact trim_none a c w
  · obtain ⟨b, off, rfl, _⟩ := h4 0 (by omega)
    refine (trim_core b off l.length c (fun j => ((l.getD j 0 : Nat) : Int)) w h1 h2 (fun j hj => by
      obtain ⟨b', off', e, hc⟩ := h4 j hj
      cases e; exact hc)).mono ?_
    rintro e w' ⟨m, hm, hz, ht, rfl, rfl⟩
    have := take_limbs h3 m hm (fun j hj => by
      by_cases hl : j < l.length
      · have := hz j hj hl; omega
      · simp [List.getD, List.getElem?_eq_none (Nat.le_of_not_lt hl)]) (by rcases ht with h | h <;> first | exact .inl h | exact .inr (by omega))
    refine ⟨?_, rfl⟩
    rw [← this, List.length_take, Nat.min_eq_left hm]

/-- nat.done. -/
theorem done_any (a : Option Addr) (c : Nat) (l : List Nat) (w : World) (h : Arr w a c l) (hl : (limbs (valL l)).length ≤ 4096) :
    Calls Tryd.prog 52 #[.slice a l.length c] w fun e w' => e = .returned (.tuple #[.slice a (limbs (valL l)).length c, .int .i64 0]) ∧ w = w' := by
  obtain ⟨m, hm⟩ : ∃ m, (limbs (valL l)).length = m := ⟨_, rfl⟩
  rw [hm] at hl ⊢
  go_enter Tryd.func52, Tryd.ntmps52
  go_wp2_with (go_at_call 60; (with_reducible refine (trim_any _ _ _ _ (by assumption)).mono ?_); rintro e w' ⟨rfl, rfl⟩)
  go_ret2
  exact ⟨rfl, rfl⟩
theorem done_long (a : Option Addr) (c : Nat) (l : List Nat) (w : World) (h : Arr w a c l) (hl : 4096 < (limbs (valL l)).length) :
    Calls Tryd.prog 52 #[.slice a l.length c] w fun e w' => e = .returned (.tuple #[.slice none 0 0, .int .i64 3]) ∧ w = w' := by
  obtain ⟨m, hm⟩ : ∃ m, (limbs (valL l)).length = m := ⟨_, rfl⟩
  rw [hm] at hl
  go_enter Tryd.func52, Tryd.ntmps52
  go_wp2_with (go_at_call 60; (with_reducible refine (trim_any _ _ _ _ (by assumption)).mono ?_); rintro e w' ⟨rfl, rfl⟩)
  go_ret2
  exact ⟨rfl, rfl⟩


def limbV (x : Nat) : Value := .int .u64 (x : Int)
theorem info_u64 : (Tryd.prog.info? 36).map (fun i => (i.zero, i.size, i.bytes)) = some (some (.int .u64 0), 1, 8) := by kernel_rfl
/-- A slice of the call's own: its limbs. -/
def OwnL (w : World) (B : Nat) (v : Value) (l : List Nat) : Prop := w.ownsRow B 36 1 v l.length (l.map limbV)
theorem eq_nil_u64 (w : World) (a : Option Addr) (n c n' c' : Nat) : (binOp .eql 22 (.slice a n c) (.slice none n' c')).run Tryd.prog w = .ok (.bool a.isNone) w := Lib.run_eql_slice_nil w _ _ a n c n' c' Tryd.underlying22

set_option maxHeartbeats 1000000 in
theorem clone_core (ad : Addr) (n c : Nat) (l : List Nat) (w : World) (hn : n = l.length) (hbig : n ≤ 1000000) (hc : ∀ j, j < n → w.cell? (ad.add j) = some (limbV (l.getD j 0))) :
    Calls Tryd.prog 71 #[.slice (some ad) n c] w fun e w' => ∃ v', e = .returned v' ∧ w'.ownsRow w.heap.size 36 1 v' n (l.map limbV) ∧ Below w.heap.size w w' := by
  obtain ⟨i0, hi, hz0, hz1, hz2⟩ := info_parts info_u64
  have q := eq_nil_u64
  have HC := Lib.hid hc
  have HN := Lib.hid hn
  clear hc hn
  go_enter Tryd.func71, Tryd.ntmps71
  go_wp2_with (at_builtin; refine wpList_append_own _ rfl _ _ 22 rfl w.heap.size 36 i0 (.int .u64 0) 1 8 Tryd.underlying22 hi hz0 hz1 hz2 rfl (by decide) _ _ _ rfl (World.ownsRow_made w #[] 0 (Nat.le_refl _) (Nat.zero_le _) rfl) ad n c (l.map limbV) rfl ?c1 ?c2 ?c3 ?c4 ?c5 ?c6 ?_)
  case c1 => rw [HN.out]; simp
  case c2 =>
    intro j u hj
    have hjn : j < l.length := by
      have := (List.getElem?_eq_some_iff.1 hj).1
      simpa using this
    refine Lib.cell?_alloc_some _ ?_
    rw [HC.out j (by rw [HN.out]; exact hjn)]
    rw [List.getElem?_map, List.getElem?_eq_getElem hjn] at hj
    simp [List.getD, hjn] at hj ⊢
    exact hj
  case c3 => intro u hu; obtain ⟨x, _, rfl⟩ := List.mem_map.1 hu; rfl
  case c4 => unfold maxLen; omega
  case c5 => omega
  case c6 => simp
  intro v' w1 hown hgrow hnil
  go_wp2_with fail
  go_ret
  refine ⟨v', rfl, by simpa using hown, ?_⟩
  exact ((Below.refl _ w).alloc (Nat.le_refl _) _).grown hgrow (by simp) (by intro k hk; simp [Value.ownBlock] at hk; omega)
theorem clone_nil (n c : Nat) (w : World) :
    Calls Tryd.prog 71 #[.slice none n c] w fun e w' => e = .returned (.slice none 0 0) ∧ w = w' := by
  have q := eq_nil_u64
  go_enter Tryd.func71, Tryd.ntmps71
  go_wp2_with fail
  go_ret
  exact ⟨rfl, rfl⟩
/-- slices.Clone of limbs. -/
theorem clone_any (a : Option Addr) (c : Nat) (l : List Nat) (w : World) (h : Arr w a c l) (hbig : l.length ≤ 1000000) :
    Calls Tryd.prog 71 #[.slice a l.length c] w fun e w' => ∃ v', e = .returned v' ∧ OwnL w' w.heap.size v' l ∧ Below w.heap.size w w' := by
  obtain ⟨h1, h2, h3, h4⟩ := h
  cases a with
  | none =>
    have h0 : l.length = 0 := by
      apply Nat.eq_zero_of_not_pos
      intro hp
      obtain ⟨b, off, e, _⟩ := h4 0 hp
      cases e
    obtain rfl : l = [] := List.length_eq_zero_iff.1 h0
    refine (clone_nil _ _ w).mono ?_
    rintro e w' ⟨rfl, rfl⟩
    exact ⟨_, rfl, World.ownsRow_nil _ _ _ _, Below.refl _ _⟩
  | some ad =>
    refine clone_core ad _ c l w rfl hbig fun j hj => ?_
    obtain ⟨b, off, e, hc⟩ := h4 j hj
    cases e
    rw [Addr.add_lit]
    exact hc
end Go.Proofs.YtjfjkabmpiebpaaDoor
