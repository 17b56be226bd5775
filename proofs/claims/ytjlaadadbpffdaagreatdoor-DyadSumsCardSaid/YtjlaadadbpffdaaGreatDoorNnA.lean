/-
  NatA, NatB, NatC, NatD: as one text.
-/
import Derived.Test.YtjlaadadbpffdaaGreatDoorNnL
import Derived.Test.YtjlaadadbpffdaaGreatDoorRows
import Derived.Test.YtjlaadadbpffdaaGreatDoorBase
import Derived.Laws.Externs
set_option linter.unusedSimpArgs false
set_option linter.unusedVariables false
namespace Go.Plumb
open Go.RowKit
/-- A slice's elements in a world: limbs. -/
def Arr (w : World) (a : Option Addr) (c : Nat) (l : List Nat) : Prop :=
  l.length ≤ c ∧ c ≤ maxLen ∧ Limbs l ∧ ∀ j, j < l.length → ∃ b off, a = some ⟨b, off, none⟩ ∧ w.cell? ⟨b, off + j, none⟩ = some (.int .u64 ((l.getD j 0 : Nat) : Int))
theorem cell_lt {W : World} {a : Addr} {v : Value} (h : W.cell? a = some v) : a.block < W.heap.size := by
  apply Nat.lt_of_not_le
  intro hle
  have e : W.heap[a.block]? = none := Array.getElem?_eq_none hle
  simp [World.cell?, e] at h
theorem Arr.below {w w' : World} {a : Option Addr} {c : Nat} {l : List Nat} (h : Arr w a c l) (hb : Below w.heap.size w w') : Arr w' a c l := by
  obtain ⟨h1, h2, h3, h4⟩ := h
  refine ⟨h1, h2, h3, fun j hj => ?_⟩
  obtain ⟨b, off, ha, hc⟩ := h4 j hj
  have hl : b < w.heap.size := cell_lt hc
  exact ⟨b, off, ha, (hb.cell (p := ⟨b, off + j, none⟩) hl).trans hc⟩
theorem Arr.take {w : World} {a : Option Addr} {c : Nat} {l : List Nat} (h : Arr w a c l) (k : Nat) : Arr w a c (l.take k) := by
  obtain ⟨h1, h2, h3, h4⟩ := h
  refine ⟨by simp; omega, h2, h3.take k, fun j hj => ?_⟩
  have hj' : j < k ∧ j < l.length := by simpa [Nat.lt_min] using hj
  obtain ⟨b, off, ha, hc⟩ := h4 j hj'.2
  refine ⟨b, off, ha, ?_⟩
  rw [hc]; simp [List.getD, List.getElem?_take, hj'.1]
theorem Arr.nil (w : World) (a : Option Addr) (c : Nat) (hc : c ≤ maxLen) : Arr w a c [] := ⟨Nat.zero_le _, hc, Limbs.nil, fun j hj => by simp at hj⟩
def lenV : Value → Nat
  | .slice _ n _ => n
  | _ => 0
end Go.Plumb
namespace Go.Proofs.YtjlaadadbpffdaaGreatDoor
open Go.RowKit Go.Plumb

set_option maxHeartbeats 1000000 in
theorem trim_core (b off n c : Nat) (f : Nat → Int) (w : World) (hn : n ≤ c) (hc : c ≤ maxLen) (hf : ∀ j, j < n → w.cell? ⟨b, off + j, none⟩ = some (.int .u64 (f j))) :
    Calls Tryz.prog 143 #[.slice (some ⟨b, off, none⟩) n c] w fun e w' => ∃ m, m ≤ n ∧ (∀ j, m ≤ j → j < n → f j = 0) ∧ (m = 0 ∨ f (m - 1) ≠ 0) ∧ e = .returned (.slice (some ⟨b, off, none⟩) m c) ∧ w = w' := by
  have hc63 : c ≤ 9223372036854775807 := hc
  have HF := Lib.hid hf
  clear hf hc
  go_enter Tryz.func143, Tryz.ntmps143
  go_wp2_with fail
  go_loop [0] (fun v => ∃ m : Nat, m ≤ n ∧ v = .slice (some ⟨b, off, none⟩) m c ∧ Hid (∀ j, m ≤ j → j < n → f j = 0)) (fun v => lenV v)
  case atStart => exact ⟨n, Nat.le_refl _, rfl, Lib.hid fun j h1 h2 => by omega⟩
  case round =>
    obtain ⟨m, hm, rfl, hz⟩ := hrel
    cases m with
    | zero =>
      go_wp2_with fail
      go_ret
      exact ⟨0, Nat.zero_le _, hz.out, .inl rfl, rfl, rfl⟩
    | succ k =>
      have hcell := HF.out k (by omega)
      by_cases h0 : f k = 0
      · go_wp2_with fail
        exact ⟨⟨k, by omega, rfl, Lib.hid fun j h1 h2 => by
          by_cases hj : j = k
          · rw [hj]; exact h0
          · exact hz.out j (by omega) h2⟩, by simp [lenV]⟩
      · go_wp2_with fail
        go_ret
        exact ⟨k + 1, hm, hz.out, .inr h0, rfl, rfl⟩
theorem trim_none (a : Option Addr) (c : Nat) (w : World) :
    Calls Tryz.prog 143 #[.slice a 0 c] w fun e w' => e = .returned (.slice a 0 c) ∧ w = w' := by
  go_enter Tryz.func143, Tryz.ntmps143
  go_wp2_with fail
  go_loop [0] (fun v => v = .slice a 0 c) (fun v => lenV v)
  case atStart => rfl
  case round =>
    subst hrel
    go_wp2_with fail
    go_ret
    exact ⟨rfl, rfl⟩
/-- nat.trim: the number's own limbs, in the same memory. -/
theorem trim_any (a : Option Addr) (c : Nat) (l : List Nat) (w : World) (h : Arr w a c l) :
    Calls Tryz.prog 143 #[.slice a l.length c] w fun e w' => e = .returned (.slice a (limbs (valL l)).length c) ∧ w = w' := by
  obtain ⟨h1, h2, h3, h4⟩ := h
  by_cases h0 : l.length = 0
  · obtain rfl : l = [] := List.length_eq_zero_iff.1 h0
    have e : limbs (valL []) = [] := limbs_zero
    rw [e]
    exact trim_none a c w
  · obtain ⟨b, off, rfl, _⟩ := h4 0 (by omega)
    refine (trim_core b off l.length c (fun j => ((l.getD j 0 : Nat) : Int)) w h1 h2 (fun j hj => by
      obtain ⟨b', off', e, hc⟩ := h4 j hj
      cases e; exact hc)).mono ?_
    rintro e w' ⟨m, hm, hz, ht, rfl, rfl⟩
    have := take_limbs h3 m hm (fun j hj => by
      by_cases hl : j < l.length
      · have := hz j hj hl; omega
      · simp [List.getD, List.getElem?_eq_none (Nat.le_of_not_lt hl)]) (by rcases ht with h | h <;> first | exact .inl h | exact .inr (by omega))
    refine ⟨?_, rfl⟩
    rw [← this, List.length_take, Nat.min_eq_left hm]

/-- nat.done. -/
theorem done_any (a : Option Addr) (c : Nat) (l : List Nat) (w : World) (h : Arr w a c l) (hl : (limbs (valL l)).length ≤ 4096) :
    Calls Tryz.prog 136 #[.slice a l.length c] w fun e w' => e = .returned (.tuple #[.slice a (limbs (valL l)).length c, .int .i64 0]) ∧ w = w' := by
  obtain ⟨m, hm⟩ : ∃ m, (limbs (valL l)).length = m := ⟨_, rfl⟩
  rw [hm] at hl ⊢
  go_enter Tryz.func136, Tryz.ntmps136
  go_wp2_with (go_at_call 143; (with_reducible refine (trim_any _ _ _ _ (by assumption)).mono ?_); rintro e w' ⟨rfl, rfl⟩)
  go_ret2
  exact ⟨rfl, rfl⟩
theorem done_long (a : Option Addr) (c : Nat) (l : List Nat) (w : World) (h : Arr w a c l) (hl : 4096 < (limbs (valL l)).length) :
    Calls Tryz.prog 136 #[.slice a l.length c] w fun e w' => e = .returned (.tuple #[.slice none 0 0, .int .i64 3]) ∧ w = w' := by
  obtain ⟨m, hm⟩ : ∃ m, (limbs (valL l)).length = m := ⟨_, rfl⟩
  rw [hm] at hl
  go_enter Tryz.func136, Tryz.ntmps136
  go_wp2_with (go_at_call 143; (with_reducible refine (trim_any _ _ _ _ (by assumption)).mono ?_); rintro e w' ⟨rfl, rfl⟩)
  go_ret2
  exact ⟨rfl, rfl⟩


def limbV (x : Nat) : Value := .int .u64 (x : Int)
theorem info_u64 : (Tryz.prog.info? 31).map (fun i => (i.zero, i.size, i.bytes)) = some (some (.int .u64 0), 1, 8) := by kernel_rfl
/-- A slice of the call's own: its limbs. -/
def OwnL (w : World) (B : Nat) (v : Value) (l : List Nat) : Prop := w.ownsRow B 31 1 v l.length (l.map limbV)
theorem eq_nil_u64 (w : World) (a : Option Addr) (n c n' c' : Nat) : (binOp .eql 22 (.slice a n c) (.slice none n' c')).run Tryz.prog w = .ok (.bool a.isNone) w := Lib.run_eql_slice_nil w _ _ a n c n' c' Tryz.underlying22

set_option maxHeartbeats 1000000 in
theorem clone_core (ad : Addr) (n c : Nat) (l : List Nat) (w : World) (hn : n = l.length) (hbig : n ≤ 1000000) (hc : ∀ j, j < n → w.cell? (ad.add j) = some (limbV (l.getD j 0))) :
    Calls Tryz.prog 160 #[.slice (some ad) n c] w fun e w' => ∃ v', e = .returned v' ∧ w'.ownsRow w.heap.size 31 1 v' n (l.map limbV) ∧ Below w.heap.size w w' := by
  obtain ⟨i0, hi, hz0, hz1, hz2⟩ := info_parts info_u64
  have q := eq_nil_u64
  have HC := Lib.hid hc
  have HN := Lib.hid hn
  clear hc hn
  go_enter Tryz.func160, Tryz.ntmps160
  go_wp2_with (at_builtin; refine wpList_append_own _ rfl _ _ 22 rfl w.heap.size 31 i0 (.int .u64 0) 1 8 Tryz.underlying22 hi hz0 hz1 hz2 rfl (by decide) _ _ _ rfl (World.ownsRow_made w #[] 0 (Nat.le_refl _) (Nat.zero_le _) rfl) ad n c (l.map limbV) rfl ?c1 ?c2 ?c3 ?c4 ?c5 ?c6 ?_)
  case c1 => rw [HN.out]; simp
  case c2 =>
    intro j u hj
    have hjn : j < l.length := by
      have := (List.getElem?_eq_some_iff.1 hj).1
      simpa using this
    refine Lib.cell?_alloc_some _ ?_
    rw [HC.out j (by rw [HN.out]; exact hjn)]
    rw [List.getElem?_map, List.getElem?_eq_getElem hjn] at hj
    simp [List.getD, hjn] at hj ⊢
    exact hj
  case c3 => intro u hu; obtain ⟨x, _, rfl⟩ := List.mem_map.1 hu; rfl
  case c4 => unfold maxLen; omega
  case c5 => omega
  case c6 => simp
  intro v' w1 hown hgrow hnil
  go_wp2_with fail
  go_ret
  refine ⟨v', rfl, by simpa using hown, ?_⟩
  exact ((Below.refl _ w).alloc (Nat.le_refl _) _).grown hgrow (by simp) (by intro k hk; simp [Value.ownBlock] at hk; omega)
theorem clone_nil (n c : Nat) (w : World) :
    Calls Tryz.prog 160 #[.slice none n c] w fun e w' => e = .returned (.slice none 0 0) ∧ w = w' := by
  have q := eq_nil_u64
  go_enter Tryz.func160, Tryz.ntmps160
  go_wp2_with fail
  go_ret
  exact ⟨rfl, rfl⟩
/-- slices.Clone of limbs. -/
theorem clone_any (a : Option Addr) (c : Nat) (l : List Nat) (w : World) (h : Arr w a c l) (hbig : l.length ≤ 1000000) :
    Calls Tryz.prog 160 #[.slice a l.length c] w fun e w' => ∃ v', e = .returned v' ∧ OwnL w' w.heap.size v' l ∧ Below w.heap.size w w' := by
  obtain ⟨h1, h2, h3, h4⟩ := h
  cases a with
  | none =>
    have h0 : l.length = 0 := by
      apply Nat.eq_zero_of_not_pos
      intro hp
      obtain ⟨b, off, e, _⟩ := h4 0 hp
      cases e
    obtain rfl : l = [] := List.length_eq_zero_iff.1 h0
    refine (clone_nil _ _ w).mono ?_
    rintro e w' ⟨rfl, rfl⟩
    exact ⟨_, rfl, World.ownsRow_nil _ _ _ _, Below.refl _ _⟩
  | some ad =>
    refine clone_core ad _ c l w rfl hbig fun j hj => ?_
    obtain ⟨b, off, e, hc⟩ := h4 j hj
    cases e
    rw [Addr.add_lit]
    exact hc
end Go.Proofs.YtjlaadadbpffdaaGreatDoor

namespace Go.Plumb
open Go.RowKit
theorem Arr.at {w : World} {a : Option Addr} {c : Nat} {l : List Nat} (h : Arr w a c l) (h0 : l ≠ []) : ∃ b off, a = some ⟨b, off, none⟩ ∧ ∀ j, j < l.length → w.cell? ⟨b, off + j, none⟩ = some (.int .u64 ((l.getD j 0 : Nat) : Int)) := by
  obtain ⟨_, _, _, h4⟩ := h
  obtain ⟨b, off, e, _⟩ := h4 0 (List.length_pos_iff.2 h0)
  refine ⟨b, off, e, fun j hj => ?_⟩
  obtain ⟨b', off', e', hc⟩ := h4 j hj
  rw [e] at e'
  cases e'
  exact hc
/-- Two numbers held against each other. -/
def cmpN (a b : Nat) : Int := if a < b then -1 else if b < a then 1 else 0
end Go.Plumb
namespace Go.Proofs.YtjlaadadbpffdaaGreatDoor
open Go.RowKit Go.Plumb

set_option maxHeartbeats 1000000 in
theorem cmp_core (b1 o1 c1 b2 o2 c2 n : Nat) (f g : Nat → Int) (w : World) (hn : n ≤ 9223372036854775807) (hf : ∀ j, j < n → w.cell? ⟨b1, o1 + j, none⟩ = some (.int .u64 (f j))) (hg : ∀ j, j < n → w.cell? ⟨b2, o2 + j, none⟩ = some (.int .u64 (g j))) :
    Calls Tryz.prog 145 #[.slice (some ⟨b1, o1, none⟩) n c1, .slice (some ⟨b2, o2, none⟩) n c2] w fun e w' => Below w.heap.size w w' ∧
      ((e = .returned (.int .i64 0) ∧ ∀ j, j < n → f j = g j) ∨ ∃ k, k < n ∧ (∀ j, k < j → j < n → f j = g j) ∧ ((e = .returned (.int .i64 (-1)) ∧ f k < g k) ∨ (e = .returned (.int .i64 1) ∧ g k < f k))) := by
  have HF := Lib.hid hf
  have HG := Lib.hid hg
  clear hf hg
  go_enter Tryz.func145, Tryz.ntmps145
  go_wp2_with fail
  go_loopw [5] (fun v wr => ∃ m : Nat, m ≤ n ∧ v = .int .i64 ((m : Int) - 1) ∧ Hid (∀ j, m ≤ j → j < n → f j = g j) ∧ Hid (Below w.heap.size w wr)) (fun v _ => (intOf v + 1).toNat)
  case atStart => exact ⟨n, Nat.le_refl _, rfl, Lib.hid fun j h1 h2 => by omega, Lib.hid (Below.refl _ _)⟩
  case round =>
    obtain ⟨m, hm, rfl, hz, hB⟩ := hrel
    cases m with
    | zero =>
      go_wp2_with fail
      go_ret
      exact ⟨hB.out, .inl ⟨rfl, fun j hj => hz.out j (by omega) hj⟩⟩
    | succ k =>
      have hc1 := (hB.out.cell (p := ⟨b1, o1 + k, none⟩) (cell_lt (HF.out k (by omega)))).trans (HF.out k (by omega))
      have hc2 := (hB.out.cell (p := ⟨b2, o2 + k, none⟩) (cell_lt (HG.out k (by omega)))).trans (HG.out k (by omega))
      have ek : ((k + 1 : Nat) : Int) - 1 = (k : Int) := by omega
      rw [ek]
      by_cases h1 : f k < g k
      · go_wp2_with fail
        go_region
        all_goals go_wp2_with fail
        all_goals go_ret
        all_goals exact ⟨by have h := hB.out; (repeat' (first | exact Below.refl _ _ | assumption | (refine below_alloc ?_ _) | (refine Below.setCell ?_ ?_ _) | (refine Below.drew ?_) | (refine below_drewN ?_ _))) <;> (first | (simp; done) | (simp; omega) | omega), .inr ⟨k, by omega, fun j h2 h3 => hz.out j (by omega) h3, .inl ⟨rfl, h1⟩⟩⟩
      · by_cases h2 : g k < f k
        · go_wp2_with fail
          go_region
          all_goals go_wp2_with fail
          all_goals go_region
          all_goals go_wp2_with fail
          all_goals go_ret
          all_goals exact ⟨by have h := hB.out; (repeat' (first | exact Below.refl _ _ | assumption | (refine below_alloc ?_ _) | (refine Below.setCell ?_ ?_ _) | (refine Below.drew ?_) | (refine below_drewN ?_ _))) <;> (first | (simp; done) | (simp; omega) | omega), .inr ⟨k, by omega, fun j h2 h3 => hz.out j (by omega) h3, .inr ⟨rfl, h2⟩⟩⟩
        · go_wp2_with fail
          go_region
          all_goals go_wp2_with fail
          all_goals go_region
          all_goals go_wp2_with fail
          all_goals go_roundw
          case rel =>
            refine ⟨k, by omega, rfl, Lib.hid fun j h3 h4 => ?_, Lib.hid (by have h := hB.out; (repeat' (first | exact Below.refl _ _ | assumption | (refine below_alloc ?_ _) | (refine Below.setCell ?_ ?_ _) | (refine Below.drew ?_) | (refine below_drewN ?_ _))) <;> (first | (simp; done) | (simp; omega) | omega))⟩
            by_cases hj : j = k
            · subst hj; omega
            · exact hz.out j (by omega) h4
          case measure => simp [intOf]

theorem cmp_zero (a b : Option Addr) (c d : Nat) (w : World) :
    Calls Tryz.prog 145 #[.slice a 0 c, .slice b 0 d] w fun e w' => e = .returned (.int .i64 0) ∧ w = w' := by
  go_enter Tryz.func145, Tryz.ntmps145
  go_wp2_with fail
  go_loop [5] (fun v => v = .int .i64 (-1)) (fun v => (intOf v + 1).toNat)
  case atStart => rfl
  case round =>
    subst hrel
    go_wp2_with fail
    go_ret
    exact ⟨rfl, rfl⟩
theorem cmp_less (a b : Option Addr) (n m c d : Nat) (w : World) (hn : n < m) :
    Calls Tryz.prog 145 #[.slice a n c, .slice b m d] w fun e w' => e = .returned (.int .i64 (-1)) ∧ w = w' := by
  go_enter Tryz.func145, Tryz.ntmps145
  go_wp2_with fail
  go_ret
  exact ⟨rfl, rfl⟩
theorem cmp_more (a b : Option Addr) (n m c d : Nat) (w : World) (hn : m < n) :
    Calls Tryz.prog 145 #[.slice a n c, .slice b m d] w fun e w' => e = .returned (.int .i64 1) ∧ w = w' := by
  go_enter Tryz.func145, Tryz.ntmps145
  go_wp2_with fail
  go_ret
  exact ⟨rfl, rfl⟩
theorem ret_int' {k : IntKind} {a b : Int} (h : a = b) : Ending.returned (.int k a) = .returned (.int k b) := by rw [h]
/-- nat.cmp of two normal numbers. -/
theorem cmp_any (a b : Option Addr) (c d A B : Nat) (w : World) (ha : Arr w a c (limbs A)) (hb : Arr w b d (limbs B)) :
    Calls Tryz.prog 145 #[.slice a (limbs A).length c, .slice b (limbs B).length d] w fun e w' => e = .returned (.int .i64 (cmpN A B)) ∧ Below w.heap.size w w' := by
  by_cases h1 : (limbs A).length < (limbs B).length
  · refine (cmp_less a b _ _ c d w h1).mono ?_
    rintro e w' ⟨rfl, rfl⟩
    have := lt_of_length h1
    exact ⟨ret_int' (by unfold cmpN; rw [if_pos this]), Below.refl _ _⟩
  · by_cases h2 : (limbs B).length < (limbs A).length
    · refine (cmp_more a b _ _ c d w h2).mono ?_
      rintro e w' ⟨rfl, rfl⟩
      have := lt_of_length h2
      exact ⟨ret_int' (by unfold cmpN; rw [if_neg (by omega), if_pos this]), Below.refl _ _⟩
    · have hlen : (limbs A).length = (limbs B).length := by omega
      by_cases h0 : limbs A = []
      · have hA := (limbs_nil_iff A).1 h0
        have hB0 : limbs B = [] := List.length_eq_zero_iff.1 (by rw [← hlen, h0]; rfl)
        have hB := (limbs_nil_iff B).1 hB0
        subst hA hB
        rw [limbs_zero]
        refine (cmp_zero a b c d w).mono ?_
        rintro e w' ⟨rfl, rfl⟩
        exact ⟨rfl, Below.refl _ _⟩
      · obtain ⟨b1, o1, rfl, hf⟩ := ha.at h0
        obtain ⟨b2, o2, rfl, hg⟩ := hb.at (by intro h; rw [h] at hlen; exact h0 (List.length_eq_zero_iff.1 hlen))
        have hmax : (limbs A).length ≤ 9223372036854775807 := by have := ha.1; have h := ha.2.1; unfold maxLen at h; omega
        have key := cmp_core b1 o1 c b2 o2 d (limbs A).length (fun j => (((limbs A).getD j 0 : Nat) : Int)) (fun j => (((limbs B).getD j 0 : Nat) : Int)) w hmax hf (fun j hj => hg j (by omega))
        rw [← hlen]
        refine key.mono ?_
        rintro e w' ⟨hbel, ⟨rfl, heq⟩ | ⟨k, hk, heq, hh⟩⟩
        · have : limbs A = limbs B := by
            apply List.ext_getElem hlen
            intro j h3 h4
            have := heq j h3
            simp only [List.getD, List.getElem?_eq_getElem h3, List.getElem?_eq_getElem h4, Option.getD_some] at this
            omega
          have := limbs_inj this
          exact ⟨ret_int' (by unfold cmpN; rw [if_neg (by omega), if_neg (by omega)]), hbel⟩
        · have hdrop : (limbs A).drop (k + 1) = (limbs B).drop (k + 1) := by
            apply List.ext_getElem (by simp; omega)
            intro j h3 h4
            simp only [List.length_drop] at h3 h4
            have := heq (k + 1 + j) (by omega) (by omega)
            simp only [List.getD, List.getElem?_eq_getElem (show k + 1 + j < (limbs A).length by omega), List.getElem?_eq_getElem (show k + 1 + j < (limbs B).length by omega), Option.getD_some] at this
            rw [List.getElem_drop, List.getElem_drop]
            omega
          rcases hh with ⟨rfl, hlt⟩ | ⟨rfl, hlt⟩
          · have := valL_lt_of (limbs_limbs A) hlen k hk hdrop (by omega)
            rw [valL_limbs, valL_limbs] at this
            exact ⟨ret_int' (by unfold cmpN; rw [if_pos this]), hbel⟩
          · have := valL_lt_of (limbs_limbs B) hlen.symm k (by omega) hdrop.symm (by omega)
            rw [valL_limbs, valL_limbs] at this
            exact ⟨ret_int' (by unfold cmpN; rw [if_neg (by omega), if_pos this]), hbel⟩

end Go.Proofs.YtjlaadadbpffdaaGreatDoor

namespace Go.Plumb
open Go.RowKit
theorem Arr.norm {w : World} {a : Option Addr} {c : Nat} {l : List Nat} (h : Arr w a c l) : Arr w a c (limbs (valL l)) := by
  have key : ∀ k, k ≤ l.length → (∀ j, k ≤ j → l.getD j 0 = 0) → ∃ m, m ≤ l.length ∧ l.take m = limbs (valL l) := by
    intro k
    induction k with
    | zero => intro _ hz; exact ⟨0, Nat.zero_le _, take_limbs h.2.2.1 0 (Nat.zero_le _) (fun j _ => hz j (Nat.zero_le _)) (.inl rfl)⟩
    | succ k ih =>
      intro hk hz
      by_cases h0 : l.getD k 0 = 0
      · exact ih (by omega) fun j hj => by
          by_cases hjk : j = k
          · rw [hjk]; exact h0
          · exact hz j (by omega)
      · exact ⟨k + 1, hk, take_limbs h.2.2.1 (k + 1) hk (fun j hj => hz j hj) (.inr (by simpa using h0))⟩
  obtain ⟨m, hm, e⟩ := key l.length (Nat.le_refl _) (fun j hj => by simp [List.getD, List.getElem?_eq_none hj])
  rw [← e]
  exact h.take m
theorem cell_new (W : World) (v : Value) (t : TypeId) : (W.alloc (.cells #[v] t)).cell? ⟨W.heap.size, 0, none⟩ = some v := World.cell?_alloc_at (hn := rfl) ..
end Go.Plumb
namespace Go.Proofs.YtjlaadadbpffdaaGreatDoor
open Go.RowKit Go.Plumb

set_option maxHeartbeats 1000000 in
theorem open1_ok (g b : Nat) (a : Option Addr) (c : Nat) (l : List Nat) (w : World) (hgb : g ≠ b) (hp : w.cell? ⟨g, 0, none⟩ = some (.pointer (some ⟨b, 0, none⟩))) (hv : w.cell? ⟨b, 0, none⟩ = some (.slice a l.length c)) (hfz : w.frozen? ⟨b, 0, none⟩ = false) (hA : Arr w a c l) (hl : (limbs (valL l)).length ≤ 4096) :
    Calls Tryz.prog 134 #[.slice (some ⟨g, 0, none⟩) 1 1] w fun e w' => e = .returned (.int .i64 0) ∧ w' = w.setCell ⟨b, 0, none⟩ (.slice a (limbs (valL l)).length c) := by
  obtain ⟨m, hm⟩ : ∃ m, (limbs (valL l)).length = m := ⟨_, rfl⟩
  rw [hm] at hl ⊢
  go_enter Tryz.func134, Tryz.ntmps134
  go_wp2_with fail
  go_loopw [7] (fun v wr => (v = .int .i64 0 ∧ wr = w) ∨ (v = .int .i64 1 ∧ wr = w.setCell ⟨b, 0, none⟩ (.slice a m c))) (fun v _ => (1 - intOf v).toNat)
  case atStart => exact .inl ⟨rfl, rfl⟩
  case round =>
    rcases hrel with ⟨rfl, rfl⟩ | ⟨rfl, rfl⟩
    · go_wp2_with (go_at_call 143; (with_reducible refine (trim_any _ _ _ _ (by assumption)).mono ?_); rintro e w' ⟨rfl, rfl⟩)
      exact ⟨.inr ⟨rfl, trivial⟩, by simp [intOf]⟩
    · go_wp2_with fail
      go_ret
      exact ⟨rfl, rfl⟩
set_option maxHeartbeats 1000000 in
theorem open1_bad (g b k : Nat) (a : Option Addr) (c : Nat) (l : List Nat) (w : World) (hk : 1 ≤ k) (hk2 : k ≤ 2) (hgb : g ≠ b) (hp : w.cell? ⟨g, 0, none⟩ = some (.pointer (some ⟨b, 0, none⟩))) (hv : w.cell? ⟨b, 0, none⟩ = some (.slice a l.length c)) (hfz : w.frozen? ⟨b, 0, none⟩ = false) (hA : Arr w a c l) (hl : 4096 < (limbs (valL l)).length) :
    Calls Tryz.prog 134 #[.slice (some ⟨g, 0, none⟩) k k] w fun e w' => e = .returned (.int .i64 2) ∧ w' = w.setCell ⟨b, 0, none⟩ (.slice a (limbs (valL l)).length c) := by
  obtain ⟨m, hm⟩ : ∃ m, (limbs (valL l)).length = m := ⟨_, rfl⟩
  rw [hm] at hl ⊢
  go_enter Tryz.func134, Tryz.ntmps134
  go_wp2_with fail
  go_loopw [7] (fun v wr => v = .int .i64 0 ∧ wr = w) (fun v _ => (1 - intOf v).toNat)
  case atStart => exact ⟨rfl, rfl⟩
  case round =>
    obtain ⟨rfl, rfl⟩ := hrel
    go_wp2_with (go_at_call 143; (with_reducible refine (trim_any _ _ _ _ (by assumption)).mono ?_); rintro e w' ⟨rfl, rfl⟩)
    go_ret
    exact ⟨rfl, rfl⟩
set_option maxHeartbeats 2000000 in
theorem open2_ok (g b b' : Nat) (a a' : Option Addr) (c c' : Nat) (l l' : List Nat) (w : World) (hgb : g ≠ b) (hgb' : g ≠ b') (hbb : b ≠ b') (hbb' : b' ≠ b) (hp : w.cell? ⟨g, 0, none⟩ = some (.pointer (some ⟨b, 0, none⟩))) (hp' : w.cell? ⟨g, 1, none⟩ = some (.pointer (some ⟨b', 0, none⟩)))
    (hv : w.cell? ⟨b, 0, none⟩ = some (.slice a l.length c)) (hv' : w.cell? ⟨b', 0, none⟩ = some (.slice a' l'.length c')) (hfz : w.frozen? ⟨b, 0, none⟩ = false) (hfz' : w.frozen? ⟨b', 0, none⟩ = false)
    (hA : Arr w a c l) (hA' : Arr w a' c' l') (hB : Arr (w.setCell ⟨b, 0, none⟩ (.slice a (limbs (valL l)).length c)) a' c' l') (hl : (limbs (valL l)).length ≤ 4096) (hl' : (limbs (valL l')).length ≤ 4096) :
    Calls Tryz.prog 134 #[.slice (some ⟨g, 0, none⟩) 2 2] w fun e w' => e = .returned (.int .i64 0) ∧ w' = (w.setCell ⟨b, 0, none⟩ (.slice a (limbs (valL l)).length c)).setCell ⟨b', 0, none⟩ (.slice a' (limbs (valL l')).length c') := by
  obtain ⟨m, hm⟩ : ∃ m, (limbs (valL l)).length = m := ⟨_, rfl⟩
  obtain ⟨m', hm'⟩ : ∃ m', (limbs (valL l')).length = m' := ⟨_, rfl⟩
  rw [hm] at hl hB
  rw [hm'] at hl'
  rw [hm, hm']
  go_enter Tryz.func134, Tryz.ntmps134
  go_wp2_with fail
  go_loopw [7] (fun v wr => (v = .int .i64 0 ∧ wr = w) ∨ (v = .int .i64 1 ∧ wr = w.setCell ⟨b, 0, none⟩ (.slice a m c)) ∨ (v = .int .i64 2 ∧ wr = (w.setCell ⟨b, 0, none⟩ (.slice a m c)).setCell ⟨b', 0, none⟩ (.slice a' m' c'))) (fun v _ => (2 - intOf v).toNat)
  case atStart => exact .inl ⟨rfl, rfl⟩
  case round =>
    rcases hrel with ⟨rfl, rfl⟩ | ⟨rfl, rfl⟩ | ⟨rfl, rfl⟩
    · go_wp2_with (go_at_call 143; (with_reducible refine (trim_any _ _ _ _ (by assumption)).mono ?_); rintro e w' ⟨rfl, rfl⟩)
      exact ⟨.inr (.inl ⟨rfl, trivial⟩), by simp [intOf]⟩
    · go_wp2_with (go_at_call 143; (with_reducible refine (trim_any _ _ _ _ (by assumption)).mono ?_); rintro e w' ⟨rfl, rfl⟩)
      exact ⟨.inr (.inr ⟨rfl, trivial⟩), by simp [intOf]⟩
    · go_wp2_with fail
      go_ret
      exact ⟨rfl, rfl⟩

theorem OwnL.arr {w : World} {B : Nat} {v : Value} {l : List Nat} (h : OwnL w B v l) (hl : Limbs l) : ∃ a c, v = .slice a l.length c ∧ Arr w a c l := by
  obtain ⟨_, ⟨rfl, h0⟩ | ⟨g, cap, cur, rfl, hg, hh, hn, hcap, hsz, htake⟩⟩ := h
  · obtain rfl : l = [] := List.length_eq_zero_iff.1 h0
    exact ⟨none, 0, rfl, Arr.nil _ _ _ (Nat.zero_le _)⟩
  · refine ⟨_, cap, rfl, hn, hcap, hl, fun j hj => ⟨g, 0, rfl, ?_⟩⟩
    have e : (cur.toList.take (l.length * 1))[j]? = some (limbV (l.getD j 0)) := by
      rw [htake, List.getElem?_map, List.getElem?_eq_getElem hj]
      simp [List.getD, hj]
    rw [List.getElem?_take_of_lt (by omega), Array.getElem?_toList] at e
    simp only [World.cell?, hh, Nat.zero_add]
    exact e

set_option maxHeartbeats 1000000 in
theorem norm_any (a : Option Addr) (c : Nat) (l : List Nat) (w : World) (hA : Arr w a c l) (hl : (limbs (valL l)).length ≤ 4096) :
    Calls Tryz.prog 118 #[.slice a l.length c] w fun e w' => ∃ a' c', e = .returned (.tuple #[.slice a' (limbs (valL l)).length c', .int .i64 0]) ∧ Arr w' a' c' (limbs (valL l)) ∧ Below w.heap.size w w' := by
  have hAn := hA.norm
  go_enter Tryz.func118, Tryz.ntmps118
  go_wp2_with fail
  have hB1 : Below w.heap.size w ((w.alloc (.cells #[.slice a l.length c] 22)).alloc (.cells #[.pointer (some ⟨w.heap.size, 0, none⟩)] 135)) := by (repeat' (first | exact Below.refl _ _ | assumption | (refine below_alloc ?_ _) | (refine Below.setCell ?_ ?_ _) | (refine Below.drew ?_) | (refine below_drewN ?_ _))) <;> (first | (simp; done) | (simp; omega) | omega)
  refine (open1_ok (w.heap.size + 1) w.heap.size a c l _ (by omega) (by simp [go_sem]) (by simp [go_sem]) (by simp [go_sem]) (hA.below hB1) hl).mono ?_
  rintro e w' ⟨rfl, rfl⟩
  have hB2 : Below w.heap.size w ((w.alloc (.cells #[.slice a (limbs (valL l)).length c] 22)).alloc (.cells #[.pointer (some ⟨w.heap.size, 0, none⟩)] 135)) := by (repeat' (first | exact Below.refl _ _ | assumption | (refine below_alloc ?_ _) | (refine Below.setCell ?_ ?_ _) | (refine Below.drew ?_) | (refine below_drewN ?_ _))) <;> (first | (simp; done) | (simp; omega) | omega)
  have hA2 := hAn.below hB2
  have hL : (limbs (valL l)).length ≤ 1000000 := by omega
  go_wp2_with fail
  refine (clone_any _ _ _ _ hA2 hL).mono ?_
  rintro e w' ⟨v', rfl, hown, hb⟩
  obtain ⟨a', c', rfl, harr⟩ := hown.arr (limbs_limbs _)
  go_wp2_with fail
  go_ret2
  exact ⟨a', c', rfl, harr, below_step hB2 hb⟩

/-- nat.Of. -/
theorem nof_any (x : Nat) (w : World) (hx : x < 18446744073709551616) :
    Calls Tryz.prog 95 #[.int .u64 (x : Int)] w fun e w' => ∃ a c, e = .returned (.slice a (limbs x).length c) ∧ Arr w' a c (limbs x) ∧ Below w.heap.size w w' := by
  have hB1 : Below w.heap.size w (w.alloc (.cells #[.int .u64 (x : Int)] 31)) := by (repeat' (first | exact Below.refl _ _ | assumption | (refine below_alloc ?_ _) | (refine Below.setCell ?_ ?_ _) | (refine Below.drew ?_) | (refine below_drewN ?_ _))) <;> (first | (simp; done) | (simp; omega) | omega)
  have hA : Arr (w.alloc (.cells #[.int .u64 (x : Int)] 31)) (some ⟨w.heap.size, 0, none⟩) 1 [x] := by
    refine ⟨by simp, by unfold maxLen; omega, Limbs.cons hx Limbs.nil, fun j hj => ⟨_, _, rfl, ?_⟩⟩
    obtain rfl : j = 0 := by simp at hj; omega
    simp [go_sem]
  have hv : valL [x] = x := by simp [valL]
  have key := trim_any _ _ _ _ hA
  rw [hv] at key
  go_enter Tryz.func95, Tryz.ntmps95
  go_wp2_with fail
  refine key.mono ?_
  rintro e w' ⟨rfl, rfl⟩
  go_wp2_with fail
  go_ret
  have hn := hA.norm
  rw [hv] at hn
  exact ⟨_, _, rfl, hn, hB1⟩

/-- The memory in which open of two finds its arguments: the two boxes, the list of their places. -/
noncomputable def boxed2 (w : World) (u v : Value) : World :=
  ((w.alloc (.cells #[u] 22)).alloc (.cells #[v] 22)).alloc (.cells #[.pointer (some ⟨w.heap.size, 0, none⟩), .pointer (some ⟨w.heap.size + 1, 0, none⟩)] 135)
theorem open2_in (a b : Option Addr) (c d : Nat) (l m : List Nat) (w : World) (hA : Arr w a c l) (hB : Arr w b d m) (hl : (limbs (valL l)).length ≤ 4096) (hm : (limbs (valL m)).length ≤ 4096) :
    Calls Tryz.prog 134 #[.slice (some ⟨w.heap.size + 1 + 1, 0, none⟩) 2 2]
      (((w.alloc (.cells #[.slice a l.length c] 22)).alloc (.cells #[.slice b m.length d] 22)).alloc (.cells #[.pointer (some ⟨w.heap.size, 0, none⟩), .pointer (some ⟨w.heap.size + 1, 0, none⟩)] 135))
      fun e w' => e = .returned (.int .i64 0) ∧ ((w.alloc (.cells #[.slice a (limbs (valL l)).length c] 22)).alloc (.cells #[.slice b (limbs (valL m)).length d] 22)).alloc (.cells #[.pointer (some ⟨w.heap.size, 0, none⟩), .pointer (some ⟨w.heap.size + 1, 0, none⟩)] 135) = w' := by
  have hB1 : Below w.heap.size w (((w.alloc (.cells #[.slice a l.length c] 22)).alloc (.cells #[.slice b m.length d] 22)).alloc (.cells #[.pointer (some ⟨w.heap.size, 0, none⟩), .pointer (some ⟨w.heap.size + 1, 0, none⟩)] 135)) := by (repeat' (first | exact Below.refl _ _ | assumption | (refine below_alloc ?_ _) | (refine Below.setCell ?_ ?_ _) | (refine Below.drew ?_) | (refine below_drewN ?_ _))) <;> (first | (simp; done) | (simp; omega) | omega)
  refine (open2_ok (w.heap.size + 1 + 1) w.heap.size (w.heap.size + 1) a b c d l m _ (by omega) (by omega) (by omega) (by omega) (by simp [go_sem]) (by simp [go_sem]) (by simp [go_sem]) (by simp [go_sem]) (by simp [go_sem]) (by simp [go_sem]) (hA.below hB1) (hB.below hB1) (hB.below (hB1.setCell (p := ⟨w.heap.size, 0, none⟩) (Nat.le_refl _) _)) hl hm).mono ?_
  rintro e w' ⟨rfl, rfl⟩
  exact ⟨rfl, by simp [go_sem]⟩

set_option maxHeartbeats 1000000 in
/-- nat.Cmp. -/
theorem Cmp_any (a b : Option Addr) (c d : Nat) (l m : List Nat) (w : World) (hA : Arr w a c l) (hB : Arr w b d m) (hl : (limbs (valL l)).length ≤ 4096) (hm : (limbs (valL m)).length ≤ 4096) :
    Calls Tryz.prog 109 #[.slice a l.length c, .slice b m.length d] w fun e w' => e = .returned (.tuple #[.int .i64 (cmpN (valL l) (valL m)), .int .i64 0]) ∧ Below w.heap.size w w' := by
  have hO := open2_in a b c d l m w hA hB hl hm
  obtain ⟨w2, hw2⟩ : ∃ w2, ((w.alloc (.cells #[.slice a (limbs (valL l)).length c] 22)).alloc (.cells #[.slice b (limbs (valL m)).length d] 22)).alloc (.cells #[.pointer (some ⟨w.heap.size, 0, none⟩), .pointer (some ⟨w.heap.size + 1, 0, none⟩)] 135) = w2 := ⟨_, rfl⟩
  have hB2 : Below w.heap.size w w2 := by rw [← hw2]; (repeat' (first | exact Below.refl _ _ | assumption | (refine below_alloc ?_ _) | (refine Below.setCell ?_ ?_ _) | (refine Below.drew ?_) | (refine below_drewN ?_ _))) <;> (first | (simp; done) | (simp; omega) | omega)
  have hAn := hA.norm.below hB2
  have hBn := hB.norm.below hB2
  rw [hw2] at hO
  have c1 : w2.cell? ⟨w.heap.size, 0, none⟩ = some (.slice a (limbs (valL l)).length c) := by rw [← hw2]; simp [go_sem]
  have c2 : w2.cell? ⟨w.heap.size + 1, 0, none⟩ = some (.slice b (limbs (valL m)).length d) := by rw [← hw2]; simp [go_sem]
  clear hw2
  go_enter Tryz.func109, Tryz.ntmps109
  go_wp2_with fail
  refine hO.mono ?_
  rintro e w' ⟨rfl, rfl⟩
  go_wp2_with (go_at_call 145; (with_reducible refine (cmp_any _ _ _ _ _ _ _ (by assumption) (by assumption)).mono ?_); rintro e w' ⟨rfl, hb⟩; have hB3 := below_step hB2 hb)
  go_ret2
  exact ⟨rfl, by assumption⟩
end Go.Proofs.YtjlaadadbpffdaaGreatDoor

namespace Go.Plumb
open Go.RowKit
def sub64Entry : Array Value → Sem Value := fun args => do
  let (x, y, b) ← Extern.MathBitsCarry.three "Sub64" args
  pure (Extern.MathBitsCarry.pair ((x + Extern.MathBitsCarry.m64 - y - b) % Extern.MathBitsCarry.m64) (if x < y + b then 1 else 0))
/-- The borrow. -/
def borrowI (x y c : Int) : Int := if x < y + c then 1 else 0
theorem run_sub64 {P : Program} (x y c : Int) (hx : 0 ≤ x) (hy : 0 ≤ y) (hy1 : y < 18446744073709551616) (hc0 : 0 ≤ c) (hc : c ≤ 1) (w : World) :
    (sub64Entry #[.int .u64 x, .int .u64 y, .int .u64 c]).run P w = .ok (.tuple #[.int .u64 ((x - y - c) % 18446744073709551616), .int .u64 (borrowI x y c)]) w := by
  have key : ∀ k : Nat, k ≤ 1 → (sub64Entry #[.int .u64 x, .int .u64 y, .int .u64 (k : Int)]).run P w =
      .ok (Extern.MathBitsCarry.pair ((x.toNat + Extern.MathBitsCarry.m64 - y.toNat - k) % Extern.MathBitsCarry.m64) (if x.toNat < y.toNat + k then 1 else 0)) w := by
    intro k hk
    have : k = 0 ∨ k = 1 := by omega
    rcases this with rfl | rfl <;> rfl
  obtain ⟨k, rfl⟩ := Int.eq_ofNat_of_zero_le hc0
  rw [key k (by omega)]
  obtain ⟨X, rfl⟩ := Int.eq_ofNat_of_zero_le hx
  obtain ⟨Y, rfl⟩ := Int.eq_ofNat_of_zero_le hy
  simp only [Extern.MathBitsCarry.pair, Extern.MathBitsCarry.m64, Int.toNat_natCast, borrowI]
  congr 4
  · simp only [Value.int.injEq, true_and, Int.ofNat_eq_natCast]; omega
  · by_cases h : X < Y + k
    · rw [if_pos h, if_pos (by omega)]; rfl
    · rw [if_neg h, if_neg (by omega)]; rfl
end Go.Plumb
namespace Go.Proofs.YtjlaadadbpffdaaGreatDoor
open Go.RowKit Go.Plumb

theorem run_add (x y c : Int) (hx : 0 ≤ x) (hy : 0 ≤ y) (hc0 : 0 ≤ c) (hc : c ≤ 1) (w : World) : Sem.run Tryz.prog (callFunc 158 #[.int .u64 x, .int .u64 y, .int .u64 c]) w = .ok (.value (.tuple #[.int .u64 ((x + y + c) % 18446744073709551616), .int .u64 ((x + y + c) / 18446744073709551616)])) w := by
  rw [run_callFunc_extern (e := add64Entry) Tryz.func158 (by kernel_rfl) (by kernel_rfl) (by kernel_rfl) (by rfl), run_add64 x y c hx hy hc0 hc]
  rfl
theorem run_sub (x y c : Int) (hx : 0 ≤ x) (hy : 0 ≤ y) (hy1 : y < 18446744073709551616) (hc0 : 0 ≤ c) (hc : c ≤ 1) (w : World) : Sem.run Tryz.prog (callFunc 168 #[.int .u64 x, .int .u64 y, .int .u64 c]) w = .ok (.value (.tuple #[.int .u64 ((x - y - c) % 18446744073709551616), .int .u64 (borrowI x y c)])) w := by
  rw [run_callFunc_extern (e := sub64Entry) Tryz.func168 (by kernel_rfl) (by kernel_rfl) (by kernel_rfl) (by rfl), run_sub64 x y c hx hy hy1 hc0 hc]
  rfl

theorem step_any (x y cy : Int) (B : Nat) (w : World) (hcell : w.cell? ⟨B, 0, none⟩ = some (.int .u64 cy)) (hfz : w.frozen? ⟨B, 0, none⟩ = false) (hx : 0 ≤ x) (hy : 0 ≤ y) (hc0 : 0 ≤ cy) (hc : cy ≤ 1) :
    Calls Tryz.prog 157 #[.int .u64 x, .int .u64 y, .pointer (some ⟨B, 0, none⟩)] w fun e w' => e = .returned (.int .u64 ((x + y + cy) % 18446744073709551616)) ∧ w.setCell ⟨B, 0, none⟩ (.int .u64 ((x + y + cy) / 18446744073709551616)) = w' := by
  have hr := run_add x y cy hx hy hc0 hc
  go_enter Tryz.func157, Tryz.ntmps157
  go_wp2_with fail
  go_ret
  exact ⟨rfl, rfl⟩
/-- n noughts. -/
def zerosA (n : Nat) : Array Value := madeCells #[.int .u64 0] n
theorem zerosA_toList (n : Nat) : (zerosA n).toList = (List.replicate n 0).map limbV := by
  unfold zerosA
  rw [toList_madeCells_one, List.map_replicate]; rfl
theorem run_makeI (n : Int) (h0 : 0 ≤ n) (h1 : n ≤ 1000000) (w : World) :
    Sem.run Tryz.prog ((Instr.makeSlice 22 (.int .i64 n) (.int .i64 n))) w = .ok (.slice (some ⟨w.heap.size, 0, none⟩) n.toNat n.toNat) (w.alloc (.cells (zerosA n.toNat) 31)) := by
  obtain ⟨i0, hi, hz0, hz1, hz2⟩ := info_parts info_u64
  have := run_make (P := Tryz.prog) w 22 31 i0 (.int .u64 0) Tryz.underlying22 hi hz0 .i64 .i64 n n h0 (Int.le_refl _) (by rw [hz2]; omega) (by omega)
  rw [this, hz1]
  simp [zerosA, Value.cells]
theorem run_make1 (n : Nat) (h1 : n ≤ 100000) (w : World) :
    Sem.run Tryz.prog ((Instr.makeSlice 22 (.int .i64 ((n : Int) + 1)) (.int .i64 ((n : Int) + 1)))) w = .ok (.slice (some ⟨w.heap.size, 0, none⟩) (n + 1) (n + 1)) (w.alloc (.cells (zerosA (n + 1)) 31)) := by
  have := run_makeI ((n : Int) + 1) (by omega) (by omega) w
  rw [show ((n : Int) + 1).toNat = n + 1 by omega] at this
  exact this
theorem owns_zeros (w : World) (B n : Nat) (hB : B ≤ w.heap.size) (hn : n ≤ 100000) :
    (w.alloc (.cells (zerosA n) 31)).ownsRow B 31 1 (.slice (some ⟨w.heap.size, 0, none⟩) n n) n ((List.replicate n 0).map limbV) := by
  rw [← zerosA_toList]
  exact World.ownsRow_lit w _ n hB (by unfold maxLen; omega) (by simp [zerosA, size_madeCells])
end Go.Proofs.YtjlaadadbpffdaaGreatDoor
