/-
  DySm, DySn, DySr, DyQ, DySd: as one text.
-/
import Derived.Test.YtjlaadadbpffdaaGreatDoorDyN
import Derived.Test.YtjlaadadbpffdaaGreatDoorDyO
import Derived.Test.YtjlaadadbpffdaaGreatDoorDbV
import Derived.Deep.RegionHeld3
import Derived.Deep.RegionWith
import Derived.Scope
import Derived.WalkMore
set_option linter.unusedSimpArgs false
set_option linter.unusedVariables false
namespace Go.Plumb
open Go.RowKit
/-- A list's dyads lie in a block: the i-th one's three cells. -/
def RowD (w : World) (g off : Nat) (N : Nat) (s : Nat → Bool) (a : Nat → Option Addr) (n c : Nat → Nat) (e : Nat → Int) : Prop :=
  ∀ i, i < N → w.cell? ⟨g, off + i * 3, none⟩ = some (.bool (s i)) ∧ w.cell? ⟨g, off + i * 3 + 1, none⟩ = some (.slice (a i) (n i) (c i)) ∧ w.cell? ⟨g, off + i * 3 + 2, none⟩ = some (.int .i64 (e i))
def okD (n : Nat → Nat) (e : Nat → Int) (i : Nat) : Prop := n i ≤ 4 ∧ -2000 ≤ e i ∧ e i ≤ 2000
/-- What small answers. -/
def SmallV (N : Nat) (n : Nat → Nat) (e : Nat → Int) (v : Value) : Prop := ∃ bl, v = .bool bl ∧ (bl = true ↔ ((∀ i, i < N → okD n e i) ∧ N ≤ 30))
theorem SmallV.no {N : Nat} {n : Nat → Nat} {e : Nat → Int} {i : Nat} (hi : i < N) (h : ¬ okD n e i) : SmallV N n e (.bool false) := ⟨false, rfl, by simp; intro h'; exact absurd (h' i hi) h⟩
end Go.Plumb
namespace Go.Proofs.YtjlaadadbpffdaaGreatDoor
open Go.RowKit Go.Plumb
set_option maxHeartbeats 2000000 in
theorem small_any (w : World) (g off N C : Nat) (s : Nat → Bool) (a : Nat → Option Addr) (n c : Nat → Nat) (e : Nat → Int) (hN : N ≤ C) (hC : C ≤ maxLen) (hR : RowD w g off N s a n c e) (hn : ∀ i, i < N → n i ≤ 9223372036854775807) :
    Calls Tryz.prog 45 #[.slice (some ⟨g, off, none⟩) N C] w fun x w' => ∃ v, x = .returned v ∧ SmallV N n e v ∧ w = w' := by
  have hmx : (N : Int) ≤ 9223372036854775807 := by unfold maxLen at hC; omega
  have HR := Lib.hid hR
  have HN := Lib.hid hn
  clear hR hn
  go_enter Tryz.func45, Tryz.ntmps45
  go_wp2_with fail
  go_loopw [3] (fun v wr => ∃ i : Nat, v = .int .i64 (i : Int) ∧ wr = w ∧ Hid (i ≤ N ∧ ∀ j, j < i → okD n e j)) (fun v _ => N - (intOf v).toNat)
  case atStart => exact ⟨0, rfl, rfl, Lib.hid ⟨Nat.zero_le _, fun j h => by omega⟩⟩
  case round =>
    obtain ⟨i, rfl, rfl, hi⟩ := hrel
    by_cases hlt : i < N
    · obtain ⟨c0, c1, c2⟩ := HR.out i hlt
      have z1 : (0 : Int) ≤ (i : Int) := by omega
      have z2 : (i : Int) < (N : Int) := by omega
      obtain ⟨ni, hni⟩ : ∃ ni, n i = ni := ⟨_, rfl⟩
      obtain ⟨ei, hei⟩ : ∃ ei, e i = ei := ⟨_, rfl⟩
      have hnm := HN.out i hlt
      rw [hni] at c1 hnm
      rw [hei] at c2
      have HI := Lib.hid (And.intro hni (And.intro hei hlt))
      clear hni hei hlt
      by_cases q1 : (4 : Int) < (ni : Int)
      · go_wp2_with fail
        go_ret
        exact ⟨_, rfl, SmallV.no HI.out.2.2 (fun h => by have := h.1; rw [HI.out.1] at this; omega), rfl⟩
      · by_cases q2 : ei < -2000
        · go_wp2_with fail
          go_ret
          exact ⟨_, rfl, SmallV.no HI.out.2.2 (fun h => by have := h.2.1; rw [HI.out.2.1] at this; omega), rfl⟩
        · by_cases q3 : 2000 < ei
          · go_wp2_with fail
            go_ret
            exact ⟨_, rfl, SmallV.no HI.out.2.2 (fun h => by have := h.2.2; rw [HI.out.2.1] at this; omega), rfl⟩
          · have hok : okD n e i := ⟨by rw [HI.out.1]; omega, by rw [HI.out.2.1]; omega, by rw [HI.out.2.1]; omega⟩
            have HO := Lib.hid hok
            clear hok
            go_wp2_with fail
            refine ⟨⟨i + 1, by go_num, trivial, Lib.hid ⟨HI.out.2.2, fun j hj => ?_⟩⟩, by simp [intOf]; have := HI.out.2.2; omega⟩
            by_cases hji : j = i
            · rw [hji]; exact HO.out
            · exact hi.out.2 j (by omega)
    · have hiN : i = N := by have := hi.out.1; omega
      have HA := Lib.hid hi.out.2
      clear hi hlt
      subst hiN
      by_cases q : (i : Int) ≤ 30
      · have hd : decide ((i : Int) ≤ 30) = true := decide_eq_true q
        have HQ := Lib.hid q
        clear q
        go_wp2_with fail
        go_ret
        exact ⟨_, rfl, ⟨true, by first | rfl | simp [hd], by simp; exact ⟨HA.out, by have := HQ.out; omega⟩⟩, rfl⟩
      · have hd : decide ((i : Int) ≤ 30) = false := decide_eq_false q
        have HQ := Lib.hid q
        clear q
        go_wp2_with fail
        go_ret
        exact ⟨_, rfl, ⟨false, by first | rfl | simp [hd], by simp; intro _; have := HQ.out; omega⟩, rfl⟩
end Go.Proofs.YtjlaadadbpffdaaGreatDoor

namespace Go.Proofs.YtjlaadadbpffdaaGreatDoor
open Go.RowKit Go.Plumb
set_option maxHeartbeats 2000000 in
theorem smallp_any (w : World) (p : Option Addr) (g off N C : Nat) (s : Nat → Bool) (a : Nat → Option Addr) (n c : Nat → Nat) (e : Nat → Int) (hN : N ≤ C) (hC : C ≤ maxLen) (hp : 0 < N → p = some ⟨g, off, none⟩) (hR : RowD w g off N s a n c e) (hn : ∀ i, i < N → n i ≤ 9223372036854775807) :
    Calls Tryz.prog 45 #[.slice p N C] w fun x w' => ∃ v, x = .returned v ∧ SmallV N n e v ∧ w = w' := by
  have hmx : (N : Int) ≤ 9223372036854775807 := by unfold maxLen at hC; omega
  have HR := Lib.hid hR
  have HN := Lib.hid hn
  have HP := Lib.hid hp
  clear hR hn hp
  go_enter Tryz.func45, Tryz.ntmps45
  go_wp2_with fail
  go_loopw [3] (fun v wr => ∃ i : Nat, v = .int .i64 (i : Int) ∧ wr = w ∧ Hid (i ≤ N ∧ ∀ j, j < i → okD n e j)) (fun v _ => N - (intOf v).toNat)
  case atStart => exact ⟨0, rfl, rfl, Lib.hid ⟨Nat.zero_le _, fun j h => by omega⟩⟩
  case round =>
    obtain ⟨i, rfl, rfl, hi⟩ := hrel
    by_cases hlt : i < N
    · obtain rfl : p = some ⟨g, off, none⟩ := HP.out (by omega)
      obtain ⟨c0, c1, c2⟩ := HR.out i hlt
      have z1 : (0 : Int) ≤ (i : Int) := by omega
      have z2 : (i : Int) < (N : Int) := by omega
      obtain ⟨ni, hni⟩ : ∃ ni, n i = ni := ⟨_, rfl⟩
      obtain ⟨ei, hei⟩ : ∃ ei, e i = ei := ⟨_, rfl⟩
      have hnm := HN.out i hlt
      rw [hni] at c1 hnm
      rw [hei] at c2
      have HI := Lib.hid (And.intro hni (And.intro hei hlt))
      clear hni hei hlt
      by_cases q1 : (4 : Int) < (ni : Int)
      · go_wp2_with fail
        go_ret
        exact ⟨_, rfl, SmallV.no HI.out.2.2 (fun h => by have := h.1; rw [HI.out.1] at this; omega), rfl⟩
      · by_cases q2 : ei < -2000
        · go_wp2_with fail
          go_ret
          exact ⟨_, rfl, SmallV.no HI.out.2.2 (fun h => by have := h.2.1; rw [HI.out.2.1] at this; omega), rfl⟩
        · by_cases q3 : 2000 < ei
          · go_wp2_with fail
            go_ret
            exact ⟨_, rfl, SmallV.no HI.out.2.2 (fun h => by have := h.2.2; rw [HI.out.2.1] at this; omega), rfl⟩
          · have hok : okD n e i := ⟨by rw [HI.out.1]; omega, by rw [HI.out.2.1]; omega, by rw [HI.out.2.1]; omega⟩
            have HO := Lib.hid hok
            clear hok
            go_wp2_with fail
            refine ⟨⟨i + 1, by go_num, trivial, Lib.hid ⟨HI.out.2.2, fun j hj => ?_⟩⟩, by simp [intOf]; have := HI.out.2.2; omega⟩
            by_cases hji : j = i
            · rw [hji]; exact HO.out
            · exact hi.out.2 j (by omega)
    · have hiN : i = N := by have := hi.out.1; omega
      have HA := Lib.hid hi.out.2
      clear hi hlt
      subst hiN
      by_cases q : (i : Int) ≤ 30
      · have hd : decide ((i : Int) ≤ 30) = true := decide_eq_true q
        have HQ := Lib.hid q
        clear q
        go_wp2_with fail
        go_ret
        exact ⟨_, rfl, ⟨true, by first | rfl | simp [hd], by simp; exact ⟨HA.out, by have := HQ.out; omega⟩⟩, rfl⟩
      · have hd : decide ((i : Int) ≤ 30) = false := decide_eq_false q
        have HQ := Lib.hid q
        clear q
        go_wp2_with fail
        go_ret
        exact ⟨_, rfl, ⟨false, by first | rfl | simp [hd], by simp; intro _; have := HQ.out; omega⟩, rfl⟩
set_option maxHeartbeats 4000000 in
set_option maxRecDepth 20000 in
theorem dSump_any (w : World) (p : Option Addr) (g off N C : Nat) (s : Nat → Bool) (a : Nat → Option Addr) (n c : Nat → Nat) (e : Nat → Int) (L : Nat → List Nat) (T : Nat → Dy) (hT : Tab w) (hN : N ≤ C) (hC : C ≤ maxLen) (hp : 0 < N → p = some ⟨g, off, none⟩) (hR : RowD w g off N s a n c e)
    (hL : ∀ i, i < N → Num w (a i) (n i) (c i) (L i) ∧ (L i).length ≤ 400) (hlT : ∀ i, i ≤ N → (limbs (T i).m).length ≤ 400) (h0 : T 0 = zeroD)
    (hst : ∀ i, i < N → addO (T i) ⟨s i, valL (L i), e i⟩ = (T (i + 1), 0) ∧ (farD (nrm (T i)) (nrm ⟨s i, valL (L i), e i⟩) ∨ nearD (nrm (T i)) (nrm ⟨s i, valL (L i), e i⟩))) :
    Calls Tryz.prog 60 #[.slice p N C] w fun x w' => ∃ a' n' c', x = .returned (.tuple #[.agg #[.bool (T N).s, .slice a' n' c', .int .i64 (T N).e], .int .i64 0]) ∧ Num w' a' n' c' (limbs (T N).m) ∧ Below w.heap.size w w' := by
  have hmx : (N : Int) ≤ 9223372036854775807 := by unfold maxLen at hC; omega
  obtain ⟨W0, hW0⟩ : ∃ W0, (w.alloc (.cells #[.bool false, .slice none 0 0, .int .i64 0] 24)).alloc (.cells #[.bool false, .slice none 0 0, .int .i64 0] 24) = W0 := ⟨_, rfl⟩
  have R0 : Boxed3 W0 w.heap.size false none 0 0 0 := by rw [← hW0]; exact (Boxed3.new _ _ _ _ _ _ _ rfl).alloc _
  have S0 : Boxed3 W0 (w.heap.size + 1) false none 0 0 0 := by rw [← hW0]; exact Boxed3.new _ _ _ _ _ _ _ (by simp)
  have HB0 : Below w.heap.size w W0 := by rw [← hW0]; (repeat' (first | exact Below.refl _ _ | assumption | (refine below_alloc ?_ _) | (refine Below.setCell ?_ ?_ _) | (refine Below.drew ?_) | (refine below_drewN ?_ _))) <;> (first | (simp; done) | (simp; omega) | omega)
  have HR := Lib.hid hR
  have HL := Lib.hid hL
  have HT := Lib.hid hlT
  have HS := Lib.hid hst
  have H0 := Lib.hid h0
  have HW := Lib.hid hW0
  have HP := Lib.hid hp
  clear hR hL hlT hst hW0 hp
  go_enter Tryz.func60, Tryz.ntmps60
  go_wp2_with fail
  rw [HW.out]
  go_loopw [11] (fun v wr => ∃ (i : Nat) (aS : Option Addr) (nS cS : Nat), v = .int .i64 (i : Int) ∧ Hid (i ≤ N) ∧ Hid (Below w.heap.size w wr) ∧ Hid (Boxed3 wr w.heap.size false none 0 0 0) ∧ Hid (Boxed3 wr (w.heap.size + 1) (T i).s aS nS cS (T i).e) ∧ Hid (Num wr aS nS cS (limbs (T i).m))) (fun v _ => N - (intOf v).toNat)
  case atStart =>
    refine ⟨0, none, 0, 0, rfl, Lib.hid (Nat.zero_le _), Lib.hid HB0, Lib.hid R0, Lib.hid ?_, Lib.hid ?_⟩
    · rw [H0.out]; exact S0
    · rw [H0.out]; exact (by show Num _ _ _ _ (limbs 0); rw [limbs_zero]; exact Num.nil _)
  case round =>
    obtain ⟨i, aS, nS, cS, rfl, hi, hB, hRb, hSb, hSn⟩ := hrel
    clear R0 S0 HB0 h0
    by_cases hlt : i < N
    · obtain rfl : p = some ⟨g, off, none⟩ := HP.out (by omega)
      obtain ⟨c0, c1, c2⟩ := HR.out i hlt
      have hg := cell_lt c0
      obtain ⟨hk0, _⟩ := HL.out i hlt
      obtain ⟨hst1, hst2⟩ := HS.out i hlt
      have hc := (fun b o (h : b < w.heap.size) => hB.out.cell (p := ⟨b, o, none⟩) h)
      have e0 := (hc _ _ hg).trans c0
      have e1 := (hc _ _ hg).trans c1
      have e2 := (hc _ _ hg).trans c2
      have z1 : (0 : Int) ≤ (i : Int) := by omega
      have z2 : (i : Int) < (N : Int) := by omega
      have hE := hk0.below hB.out
      have hl1 := (HL.out i hlt).2
      have hl2 := HT.out i (Nat.le_of_lt hlt)
      have hl3 := HT.out (i + 1) hlt
      obtain ⟨T1, hT1⟩ : ∃ D, T i = D := ⟨_, rfl⟩
      obtain ⟨T2, hT2⟩ : ∃ D, T (i + 1) = D := ⟨_, rfl⟩
      rw [hT1] at hst1 hst2 hl2 hSb hSn
      rw [hT2] at hst1 hl3
      obtain ⟨si, hsi⟩ : ∃ x, s i = x := ⟨_, rfl⟩
      obtain ⟨ai, hai⟩ : ∃ x, a i = x := ⟨_, rfl⟩
      obtain ⟨ni, hni⟩ : ∃ x, n i = x := ⟨_, rfl⟩
      obtain ⟨ci, hci⟩ : ∃ x, c i = x := ⟨_, rfl⟩
      obtain ⟨ei, hei⟩ : ∃ x, e i = x := ⟨_, rfl⟩
      obtain ⟨li, hli⟩ : ∃ x, L i = x := ⟨_, rfl⟩
      rw [hsi] at e0 hst1 hst2
      rw [hai, hni, hci] at e1 hE
      rw [hei] at e2 hst1 hst2
      rw [hli] at hE hst1 hst2 hl1
      have hA := fun w' (hb : Below wr.heap.size wr w') => dAdd_v T1.s si T1.e ei T2 0 (hT.below (below_step hB.out hb)) (hSn.out.below hb) (hE.below hb) (valL_limbs _) rfl (by omega) hst2 hst1
      obtain ⟨x0, x1, x2, f0, f1, f2⟩ := id (hSb.out.alloc (.cells #[.bool si, .slice ai ni ci, .int .i64 ei] 24))
      have HLT := Lib.hid (And.intro hlt hT2)
      clear hlt hT1 hT2 hsi hai hni hci hei hli c0 c1 c2 hk0 hst1 hst2 hc hE hl1 hl2 hl3
      go_wp2_with fail
      refine (hA _ (by repeat' (first | exact Below.refl _ _ | refine below_alloc ?_ _))).mono ?_
      rintro x w2 ⟨a2, n2, c2, rfl, N2, hb⟩
      have S2 := ((hSb.out.alloc (.cells #[.bool si, .slice ai ni ci, .int .i64 ei] 24)).below hb).alloc (.cells #[.bool T2.s, .slice a2 n2 c2, .int .i64 T2.e] 24)
      have R2 := ((hRb.out.alloc (.cells #[.bool si, .slice ai ni ci, .int .i64 ei] 24)).below hb).alloc (.cells #[.bool T2.s, .slice a2 n2 c2, .int .i64 T2.e] 24)
      have hB2 : Below w.heap.size w (w2.alloc (.cells #[.bool T2.s, .slice a2 n2 c2, .int .i64 T2.e] 24)) := below_alloc (below_step (below_alloc hB.out _) hb) _
      have N3 : Num (w2.alloc (.cells #[.bool T2.s, .slice a2 n2 c2, .int .i64 T2.e] 24)) a2 n2 c2 (limbs T2.m) := N2.below (below_alloc (Below.refl _ _) _)
      clear hA hb x0 x1 x2 f0 f1 f2 e0 e1 e2 hB hRb hSb hSn N2
      obtain ⟨x0, x1, x2, f0, f1, f2⟩ := id S2
      go_wp2_with fail
      refine ⟨⟨i + 1, a2, n2, c2, by go_num, Lib.hid HLT.out.1, Lib.hid (Below.fill3 hB2 (Nat.le_succ _) _ _ _), Lib.hid (R2.other3 (by omega) _ _ _), Lib.hid ?_, Lib.hid ?_⟩, by simp [intOf]; have := HLT.out.1; omega⟩
      · rw [HLT.out.2]; exact S2.fill ..
      · rw [HLT.out.2]; exact Num.fill S2 N3 ..
    · have hiN : i = N := by have := hi.out; omega
      subst hiN
      obtain ⟨x0, x1, x2, f0, f1, f2⟩ := id hSb.out
      obtain ⟨r0, r1, r2, g0, g1, g2⟩ := id hRb.out
      clear hlt
      go_wp2_with fail
      exact bodyPost_ret (v := .tuple #[.agg #[.bool (T i).s, .slice aS nS cS, .int .i64 (T i).e], .int .i64 0]) (by simp [results, Tryz.results60, go_sem, r0, r1, r2, g0, g1, g2]) rfl ⟨aS, nS, cS, rfl, Num.fill hRb.out hSn.out .., Below.fill3 hB.out (Nat.le_refl _) _ _ _⟩
end Go.Proofs.YtjlaadadbpffdaaGreatDoor

namespace Go.Proofs.YtjlaadadbpffdaaGreatDoor
open Go.RowKit Go.Plumb
set_option maxHeartbeats 4000000 in
set_option maxRecDepth 20000 in
theorem rSum3_any (w : World) (p : Option Addr) (g off N C : Nat) (s : Nat → Bool) (a : Nat → Option Addr) (n c : Nat → Nat) (e : Nat → Int) (L : Nat → List Nat) (T : Nat → Dy) (hN : N ≤ C) (hC : C ≤ maxLen) (hp : 0 < N → p = some ⟨g, off, none⟩) (hR : RowD w g off N s a n c e)
    (hL : ∀ i, i < N → Num w (a i) (n i) (c i) (L i) ∧ (L i).length ≤ 400) (hlT : ∀ i, i ≤ N → (limbs (T i).m).length ≤ 400) (h0 : T 0 = zeroD)
    (hst : ∀ i, i < N → addO (T i) ⟨s i, valL (L i), e i⟩ = (T (i + 1), 0) ∧ (farD (nrm (T i)) (nrm ⟨s i, valL (L i), e i⟩) ∨ nearD (nrm (T i)) (nrm ⟨s i, valL (L i), e i⟩))) :
    Calls Tryz.prog 62 #[.slice p N C] w fun x w' => ∃ a' n' c', x = .returned (.tuple #[.agg #[.bool (T N).s, .slice a' n' c', .int .i64 (T N).e], .int .i64 0]) ∧ Num w' a' n' c' (limbs (T N).m) ∧ Below w.heap.size w w' := by
  have hmx : (N : Int) ≤ 9223372036854775807 := by unfold maxLen at hC; omega
  obtain ⟨W0, hW0⟩ : ∃ W0, (w.alloc (.cells #[.bool false, .slice none 0 0, .int .i64 0] 24)).alloc (.cells #[.bool false, .slice none 0 0, .int .i64 0] 24) = W0 := ⟨_, rfl⟩
  have R0 : Boxed3 W0 w.heap.size false none 0 0 0 := by rw [← hW0]; exact (Boxed3.new _ _ _ _ _ _ _ rfl).alloc _
  have S0 : Boxed3 W0 (w.heap.size + 1) false none 0 0 0 := by rw [← hW0]; exact Boxed3.new _ _ _ _ _ _ _ (by simp)
  have HB0 : Below w.heap.size w W0 := by rw [← hW0]; (repeat' (first | exact Below.refl _ _ | assumption | (refine below_alloc ?_ _) | (refine Below.setCell ?_ ?_ _) | (refine Below.drew ?_) | (refine below_drewN ?_ _))) <;> (first | (simp; done) | (simp; omega) | omega)
  have HR := Lib.hid hR
  have HL := Lib.hid hL
  have HT := Lib.hid hlT
  have HS := Lib.hid hst
  have H0 := Lib.hid h0
  have HW := Lib.hid hW0
  have HP := Lib.hid hp
  clear hR hL hlT hst hW0 hp
  go_enter Tryz.func62, Tryz.ntmps62
  go_wp2_with fail
  rw [HW.out]
  go_loopw [5] (fun v wr => ∃ (i : Nat) (aS : Option Addr) (nS cS : Nat), v = .int .i64 (i : Int) ∧ Hid (i ≤ N) ∧ Hid (Below w.heap.size w wr) ∧ Hid (Boxed3 wr w.heap.size false none 0 0 0) ∧ Hid (Boxed3 wr (w.heap.size + 1) (T i).s aS nS cS (T i).e) ∧ Hid (Num wr aS nS cS (limbs (T i).m))) (fun v _ => N - (intOf v).toNat)
  case atStart =>
    refine ⟨0, none, 0, 0, rfl, Lib.hid (Nat.zero_le _), Lib.hid HB0, Lib.hid R0, Lib.hid ?_, Lib.hid ?_⟩
    · rw [H0.out]; exact S0
    · rw [H0.out]; exact (by show Num _ _ _ _ (limbs 0); rw [limbs_zero]; exact Num.nil _)
  case round =>
    obtain ⟨i, aS, nS, cS, rfl, hi, hB, hRb, hSb, hSn⟩ := hrel
    clear R0 S0 HB0 h0
    by_cases hlt : i < N
    · obtain rfl : p = some ⟨g, off, none⟩ := HP.out (by omega)
      obtain ⟨c0, c1, c2⟩ := HR.out i hlt
      have hg := cell_lt c0
      obtain ⟨hk0, _⟩ := HL.out i hlt
      obtain ⟨hst1, hst2⟩ := HS.out i hlt
      have hc := (fun b o (h : b < w.heap.size) => hB.out.cell (p := ⟨b, o, none⟩) h)
      have e0 := (hc _ _ hg).trans c0
      have e1 := (hc _ _ hg).trans c1
      have e2 := (hc _ _ hg).trans c2
      have z1 : (0 : Int) ≤ (i : Int) := by omega
      have z2 : (i : Int) < (N : Int) := by omega
      have hE := hk0.below hB.out
      have hl1 := (HL.out i hlt).2
      have hl2 := HT.out i (Nat.le_of_lt hlt)
      have hl3 := HT.out (i + 1) hlt
      obtain ⟨T1, hT1⟩ : ∃ D, T i = D := ⟨_, rfl⟩
      obtain ⟨T2, hT2⟩ : ∃ D, T (i + 1) = D := ⟨_, rfl⟩
      rw [hT1] at hst1 hst2 hl2 hSb hSn
      rw [hT2] at hst1 hl3
      obtain ⟨si, hsi⟩ : ∃ x, s i = x := ⟨_, rfl⟩
      obtain ⟨ai, hai⟩ : ∃ x, a i = x := ⟨_, rfl⟩
      obtain ⟨ni, hni⟩ : ∃ x, n i = x := ⟨_, rfl⟩
      obtain ⟨ci, hci⟩ : ∃ x, c i = x := ⟨_, rfl⟩
      obtain ⟨ei, hei⟩ : ∃ x, e i = x := ⟨_, rfl⟩
      obtain ⟨li, hli⟩ : ∃ x, L i = x := ⟨_, rfl⟩
      rw [hsi] at e0 hst1 hst2
      rw [hai, hni, hci] at e1 hE
      rw [hei] at e2 hst1 hst2
      rw [hli] at hE hst1 hst2 hl1
      have eT : (⟨T1.s, valL (limbs T1.m), T1.e⟩ : Dy) = T1 := by rw [valL_limbs]
      have hA := fun w' (hb : Below wr.heap.size wr w') => rAdd3_any T1.s si T1.e ei T2 0 (hSn.out.below hb) (hE.below hb) (by omega) (by rw [eT]; exact hst2) (by rw [eT]; exact hst1)
      obtain ⟨x0, x1, x2, f0, f1, f2⟩ := id hSb.out
      have hgr : g < wr.heap.size := Nat.lt_of_lt_of_le hg hB.out.size
      have HSS : Hid (∀ wx, Below wr.heap.size wr wx → Below wr.heap.size wr wx ∧ wx.cell? ⟨w.heap.size + 1, 0, none⟩ = some (.bool T1.s) ∧ wx.cell? ⟨w.heap.size + 1, 1, none⟩ = some (.slice aS nS cS) ∧ wx.cell? ⟨w.heap.size + 1, 2, none⟩ = some (.int .i64 T1.e) ∧ wx.cell? ⟨g, off + i * 3, none⟩ = some (.bool si) ∧ wx.cell? ⟨g, off + i * 3 + 1, none⟩ = some (.slice ai ni ci) ∧ wx.cell? ⟨g, off + i * 3 + 2, none⟩ = some (.int .i64 ei)) := Lib.hid (fun wx h => ⟨h, (hSb.out.below h).c0, (hSb.out.below h).c1, (hSb.out.below h).c2, ((bcell h).1 _ _ hgr).trans e0, ((bcell h).1 _ _ hgr).trans e1, ((bcell h).1 _ _ hgr).trans e2⟩)
      have NB := Boxed3.new wr false none 0 0 0 24 (g := wr.heap.size) rfl
      have HB9 := Below.refl wr.heap.size wr
      have HLT := Lib.hid (And.intro hlt hT2)
      clear hlt hT1 hT2 hsi hai hni hci hei hli c0 c1 c2 hk0 hst1 hst2 hc hE hl1 hl2 hl3 eT
      go_wp2_with fail
      have zw : IntKind.i64.wrap (i : Int) = (i : Int) := IntWalk.i64_in _ ⟨by omega, by omega⟩
      have zn : ((i : Int)).toNat = i := Int.toNat_natCast i
      go_region_held3 (fun wx => Below wr.heap.size wr wx ∧ wx.cell? ⟨w.heap.size + 1, 0, none⟩ = some (.bool T1.s) ∧ wx.cell? ⟨w.heap.size + 1, 1, none⟩ = some (.slice aS nS cS) ∧ wx.cell? ⟨w.heap.size + 1, 2, none⟩ = some (.int .i64 T1.e) ∧ wx.cell? ⟨g, off + i * 3, none⟩ = some (.bool si) ∧ wx.cell? ⟨g, off + i * 3 + 1, none⟩ = some (.slice ai ni ci) ∧ wx.cell? ⟨g, off + i * 3 + 2, none⟩ = some (.int .i64 ei)) (first | exact HSS.out _ (by assumption) | exact HSS.out _ (by (repeat' (first | exact Below.refl _ _ | assumption | (refine below_alloc ?_ _) | (refine Below.setCell ?_ ?_ _) | (refine Below.drew ?_) | (refine below_drewN ?_ _))) <;> (first | (simp; done) | (simp; omega) | omega))) ((first | (go_at_call 39; (with_reducible refine (hA _ (by first | assumption | ((repeat' (first | exact Below.refl _ _ | assumption | (refine below_alloc ?_ _) | (refine Below.setCell ?_ ?_ _) | (refine Below.drew ?_) | (refine below_drewN ?_ _))) <;> (first | (simp; done) | (simp; omega) | omega)))).mono ?_); rintro x v2 ⟨a2, n2, c2, rfl, N2, hb⟩; have HB9 := below_step (w0 := wr) (by first | assumption | ((repeat' (first | exact Below.refl _ _ | assumption | (refine below_alloc ?_ _) | (refine Below.setCell ?_ ?_ _) | (refine Below.drew ?_) | (refine below_drewN ?_ _))) <;> (first | (simp; done) | (simp; omega) | omega))) hb; have hs9 := HB9.size; (try (have P1 := Boxed3.below (b := wr.heap.size) (by first | exact NB | exact Boxed3.drew NB | exact Boxed3.drew (Boxed3.drew NB)) hb; obtain ⟨p0, p1, p2, p3, p4, p5⟩ := id P1)); clear hb)))
      · obtain ⟨W5, hW5⟩ : ∃ W5, v2.alloc (.cells #[.bool T2.s, .slice a2 n2 c2, .int .i64 T2.e] 24) = W5 := ⟨_, rfl⟩
        have NX : Boxed3 W5 v2.heap.size T2.s a2 n2 c2 T2.e := by rw [← hW5]; exact Boxed3.new v2 _ _ _ _ _ _ rfl
        have N5 : Num W5 a2 n2 c2 (limbs T2.m) := by rw [← hW5]; exact N2.below (below_alloc (Below.refl _ _) _)
        have HB5 : Below wr.heap.size wr W5 := by rw [← hW5]; exact below_alloc HB9 _
        have SX := hSb.out.below HB5
        have RX := hRb.out.below HB5
        have hB5 := below_step hB.out HB5
        try rw [hW5]
        clear hW5 hA HB9 N2 hSb hSn hRb hB x0 x1 x2 f0 f1 f2 e0 e1 e2 NB HSS HB5
        obtain ⟨x0, x1, x2, f0, f1, f2⟩ := id SX
        obtain ⟨q0, q1, q2, _, _, _⟩ := id NX
        go_wp2_with fail
        refine ⟨⟨i + 1, a2, n2, c2, by go_num, Lib.hid HLT.out.1, Lib.hid (Below.fill3 hB5 (Nat.le_succ _) _ _ _), Lib.hid (RX.other3 (by omega) _ _ _), Lib.hid ?_, Lib.hid ?_⟩, by simp [intOf]; have := HLT.out.1; omega⟩
        · rw [HLT.out.2]; exact SX.fill ..
        · rw [HLT.out.2]; exact Num.fill SX N5 ..
      · obtain ⟨W5, hW5⟩ : ∃ W5, ((v2.setCell ⟨wr.heap.size, 0, none⟩ (.bool T2.s)).setCell ⟨wr.heap.size, 1, none⟩ (.slice a2 n2 c2)).setCell ⟨wr.heap.size, 2, none⟩ (.int .i64 T2.e) = W5 := ⟨_, rfl⟩
        have NX : Boxed3 W5 wr.heap.size T2.s a2 n2 c2 T2.e := by rw [← hW5]; exact P1.fill ..
        have N5 : Num W5 a2 n2 c2 (limbs T2.m) := by rw [← hW5]; exact Num.fill P1 N2 ..
        have HB5 : Below wr.heap.size wr W5 := by rw [← hW5]; exact Below.fill3 HB9 (Nat.le_refl _) _ _ _
        clear P1 p0 p1 p2 p3 p4 p5
        have SX := hSb.out.below HB5
        have RX := hRb.out.below HB5
        have hB5 := below_step hB.out HB5
        try rw [hW5]
        clear hW5 hA HB9 N2 hSb hSn hRb hB x0 x1 x2 f0 f1 f2 e0 e1 e2 NB HSS HB5
        obtain ⟨x0, x1, x2, f0, f1, f2⟩ := id SX
        obtain ⟨q0, q1, q2, _, _, _⟩ := id NX
        go_wp2_with fail
        refine ⟨⟨i + 1, a2, n2, c2, by go_num, Lib.hid HLT.out.1, Lib.hid (Below.fill3 hB5 (Nat.le_succ _) _ _ _), Lib.hid (RX.other3 (by omega) _ _ _), Lib.hid ?_, Lib.hid ?_⟩, by simp [intOf]; have := HLT.out.1; omega⟩
        · rw [HLT.out.2]; exact SX.fill ..
        · rw [HLT.out.2]; exact Num.fill SX N5 ..
    · have hiN : i = N := by have := hi.out; omega
      subst hiN
      obtain ⟨x0, x1, x2, f0, f1, f2⟩ := id hSb.out
      obtain ⟨r0, r1, r2, g0, g1, g2⟩ := id hRb.out
      clear hlt
      go_wp2_with fail
      exact bodyPost_ret (v := .tuple #[.agg #[.bool (T i).s, .slice aS nS cS, .int .i64 (T i).e], .int .i64 0]) (by simp [results, Tryz.results62, go_sem, r0, r1, r2, g0, g1, g2]) rfl ⟨aS, nS, cS, rfl, Num.fill hRb.out hSn.out .., Below.fill3 hB.out (Nat.le_refl _) _ _ _⟩
end Go.Proofs.YtjlaadadbpffdaaGreatDoor

namespace Go.Proofs.YtjlaadadbpffdaaGreatDoor
open Go.RowKit Go.Plumb
section
variable {w : World} {a b : Option Addr} {n c m d : Nat} {l k : List Nat}
set_option maxHeartbeats 4000000 in
set_option maxRecDepth 20000 in
theorem rMul3_ok (s s' : Bool) (e e' : Int) (R : Dy) (r : Int) (h1 : Num w a n c l) (h2 : Num w b m d k) (hl : l.length + k.length ≤ 1000) (hm : mayE e) (hm' : mayE e') (hO : mulO ⟨s, valL l, e⟩ ⟨s', valL k, e'⟩ = (R, r)) :
    Calls Tryz.prog 43 #[.agg #[.bool s, .slice a n c, .int .i64 e], .agg #[.bool s', .slice b m d, .int .i64 e']] w fun x w' => ∃ a' n' c', x = .returned (.tuple #[.agg #[.bool R.s, .slice a' n' c', .int .i64 R.e], .int .i64 r]) ∧ Num w' a' n' c' (limbs R.m) ∧ Below w.heap.size w w' := by
  obtain ⟨X0, Y0, R0⟩ := three_boxes w s s' a b n c m d e e' 24
  unfold mulO at hO
  rw [if_pos ⟨hm, hm'⟩] at hO
  have hM1 := fun w' (hb : Below w.heap.size w w') => rMay3_any s e (h1.below hb) (by omega)
  have hM2 := fun w' (hb : Below w.heap.size w w') => rMay3_any s' e' (h2.below hb) (by omega)
  simp only [decide_eq_true hm] at hM1
  simp only [decide_eq_true hm'] at hM2
  have hN1 := fun w' (hb : Below w.heap.size w w') => rNorm3_any s e (h1.below hb) (by omega) (by have := hm.1; omega) (by have := hm.2; omega)
  have hN2 := fun w' (hb : Below w.heap.size w w') => rNorm3_any s' e' (h2.below hb) (by omega) (by have := hm'.1; omega) (by have := hm'.2; omega)
  have hb0 := nrm_e_may (s := s) h1.limbs (by omega) hm
  have hb0' := nrm_e_may (s := s') h2.limbs (by omega) hm'
  have hb1 := nrm_len (s := s) (e := e) h1.limbs
  have hb1' := nrm_len (s := s') (e := e') h2.limbs
  obtain ⟨X, hX⟩ : ∃ X, nrm ⟨s, valL l, e⟩ = X := ⟨_, rfl⟩
  obtain ⟨Y, hY⟩ : ∃ Y, nrm ⟨s', valL k, e'⟩ = Y := ⟨_, rfl⟩
  simp only [hX] at hN1 hb0 hb1 hO
  simp only [hY] at hN2 hb0' hb1' hO
  obtain ⟨xs, xm, xe⟩ := X
  obtain ⟨ys, ym, ye⟩ := Y
  simp only at hN1 hN2 hb0 hb0' hb1 hb1'
  have hlm : (limbs (xm * ym)).length ≤ 4000 := by
    have := len_mul (limbs_limbs xm) (limbs_limbs ym)
    rw [valL_limbs, valL_limbs] at this
    omega
  have hD := fun w' a' n' c' (hn : Num w' a' n' c' (limbs (xm * ym))) => rDone3_any (xs != ys) (xe + ye) hn hlm (by omega) (by omega)
  have hlen : (limbs xm).length + (limbs ym).length ≤ 4000 := by omega
  simp only [valL_limbs] at hD
  have hO' : doneO ⟨xs != ys, xm * ym, xe + ye⟩ = (R, r) := hO
  simp only [hO'] at hD
  have hwr : IntKind.i64.wrap (xe + ye) = xe + ye := IntWalk.i64_in _ ⟨by omega, by omega⟩
  replace hD : ∀ w' a' n' c', Num w' a' n' c' (limbs (xm * ym)) → Calls Tryz.prog 55 #[.agg #[.bool (!(xs == ys)), .slice a' n' c', .int .i64 (IntKind.i64.wrap (xe + ye))]] w' fun x w'' => ∃ a'' n'' c'', x = .returned (.tuple #[.agg #[.bool R.s, .slice a'' n'' c'', .int .i64 R.e], .int .i64 r]) ∧ Num w'' a'' n'' c'' (limbs R.m) ∧ Below w'.heap.size w' w'' := by
    intro w' a' n' c' hn
    rw [hwr]
    exact hD w' a' n' c' hn
  clear hwr
  clear hX hY hO hO' hm hm' h1 h2 hlm hb1 hb1' hl
  obtain ⟨zs, zm, ze⟩ := R
  simp only at hD ⊢
  go_enter Tryz.func43, Tryz.ntmps43
  go_wp2_with fail
  refine (hM1 _ (by repeat' (first | exact Below.refl _ _ | refine below_alloc ?_ _))).mono ?_
  rintro x w1 ⟨rfl, hb⟩
  have X1 := X0.below hb
  have Y1 := Y0.below hb
  have R1 := R0.below hb
  have HB1 := below_step (w0 := w) (by (repeat' (first | exact Below.refl _ _ | assumption | (refine below_alloc ?_ _) | (refine Below.setCell ?_ ?_ _) | (refine Below.drew ?_) | (refine below_drewN ?_ _))) <;> (first | (simp; done) | (simp; omega) | omega)) hb
  clear hb X0 Y0 R0 hM1
  obtain ⟨x0, x1, x2, _, _, _⟩ := id X1
  obtain ⟨y0, y1, y2, _, _, _⟩ := id Y1
  go_wp2_with fail
  refine (hM2 _ HB1).mono ?_
  rintro x w2 ⟨rfl, hb⟩
  have X2 := X1.below hb
  have Y2 := Y1.below hb
  have R2 := R1.below hb
  have HB2 := below_step HB1 hb
  clear hb X1 Y1 R1 hM2 HB1 x0 x1 x2 y0 y1 y2
  obtain ⟨x0, x1, x2, f0, f1, f2⟩ := id X2
  obtain ⟨y0, y1, y2, g0, g1, g2⟩ := id Y2
  go_wp2_with fail
  go_region_with ((first | (go_at_call 82; (with_reducible refine (hN1 _ (by first | assumption | exact Below.drew (by assumption) | ((repeat' (first | exact Below.refl _ _ | assumption | (refine below_alloc ?_ _) | (refine Below.setCell ?_ ?_ _) | (refine Below.drew ?_) | (refine below_drewN ?_ _))) <;> (first | (simp; done) | (simp; omega) | omega)))).mono ?_); rintro e v1 ⟨p1, q1, r1, rfl, M1, hb⟩; have U1 := Boxed3.below (b := w.heap.size) (by first | assumption | exact Boxed3.drew (by assumption)) hb; have V1 := Boxed3.below (b := w.heap.size + 1) (by first | assumption | exact Boxed3.drew (by assumption)) hb; have T1 := Boxed3.below (b := w.heap.size + 1 + 1) (by first | assumption | exact Boxed3.drew (by assumption)) hb; have HC1 := below_step (w0 := w) (by first | assumption | exact Below.drew (by assumption) | ((repeat' (first | exact Below.refl _ _ | assumption | (refine below_alloc ?_ _) | (refine Below.setCell ?_ ?_ _) | (refine Below.drew ?_) | (refine below_drewN ?_ _))) <;> (first | (simp; done) | (simp; omega) | omega))) hb; obtain ⟨x0, x1, x2, f0, f1, f2⟩ := id U1; obtain ⟨y0, y1, y2, h0, h1, h2⟩ := id V1; clear hb) | (go_at_call 82; (with_reducible refine (hN2 _ (by first | assumption | exact Below.drew (by assumption) | ((repeat' (first | exact Below.refl _ _ | assumption | (refine below_alloc ?_ _) | (refine Below.setCell ?_ ?_ _) | (refine Below.drew ?_) | (refine below_drewN ?_ _))) <;> (first | (simp; done) | (simp; omega) | omega)))).mono ?_); rintro e v2 ⟨p2, q2, r2, rfl, M2, hb⟩; have U2 := Boxed3.below (b := w.heap.size) (by first | assumption | exact Boxed3.drew (by assumption)) hb; have V2 := Boxed3.below (b := w.heap.size + 1) (by first | assumption | exact Boxed3.drew (by assumption)) hb; have T2 := Boxed3.below (b := w.heap.size + 1 + 1) (by first | assumption | exact Boxed3.drew (by assumption)) hb; have HC2 := below_step (w0 := w) (by first | assumption | exact Below.drew (by assumption) | ((repeat' (first | exact Below.refl _ _ | assumption | (refine below_alloc ?_ _) | (refine Below.setCell ?_ ?_ _) | (refine Below.drew ?_) | (refine below_drewN ?_ _))) <;> (first | (simp; done) | (simp; omega) | omega))) hb; have M3 := Num.below M1 hb; obtain ⟨x0, x1, x2, f0, f1, f2⟩ := id U2; obtain ⟨y0, y1, y2, h0, h1, h2⟩ := id V2; clear hb)))
  all_goals obtain ⟨W5, hW5⟩ : ∃ W5, (((((v2.setCell ⟨w.heap.size, 0, none⟩ (.bool xs)).setCell ⟨w.heap.size, 1, none⟩ (.slice p1 q1 r1)).setCell ⟨w.heap.size, 2, none⟩ (.int .i64 xe)).setCell ⟨w.heap.size + 1, 0, none⟩ (.bool ys)).setCell ⟨w.heap.size + 1, 1, none⟩ (.slice p2 q2 r2)).setCell ⟨w.heap.size + 1, 2, none⟩ (.int .i64 ye) = W5 := ⟨_, rfl⟩
  all_goals have V3 := ((V2.other (k := w.heap.size) (by omega) 0 (.bool xs)).other (k := w.heap.size) (by omega) 1 (.slice p1 q1 r1)).other (k := w.heap.size) (by omega) 2 (.int .i64 xe)
  all_goals have U3 := U2.fill xs p1 q1 r1 xe
  all_goals have X5 : Boxed3 W5 w.heap.size xs p1 q1 r1 xe := by rw [← hW5]; exact ((U3.other (by omega) _ _).other (by omega) _ _).other (by omega) _ _
  all_goals have Y5 : Boxed3 W5 (w.heap.size + 1) ys p2 q2 r2 ye := by rw [← hW5]; exact V3.fill ..
  all_goals have R5 : Boxed3 W5 (w.heap.size + 1 + 1) false none 0 0 0 := by rw [← hW5]; exact (((((T2.other (by omega) _ _).other (by omega) _ _).other (by omega) _ _).other (by omega) _ _).other (by omega) _ _).other (by omega) _ _
  all_goals have L1 : Num W5 p1 q1 r1 (limbs xm) := by rw [← hW5]; exact Num.fill V3 (Num.fill U2 M3 ..) ..
  all_goals have L2 : Num W5 p2 q2 r2 (limbs ym) := by rw [← hW5]; exact Num.fill V3 (Num.fill U2 M2 ..) ..
  all_goals have HB5 : Below w.heap.size w W5 := by rw [← hW5]; exact Below.fill3 (Below.fill3 HC2 (Nat.le_refl _) _ _ _) (Nat.le_succ _) _ _ _
  all_goals rw [hW5]
  all_goals clear hW5 U3 V3 U1 V1 T1 HC1 M1 U2 V2 T2 HC2 M2 M3 x0 x1 x2 f0 f1 f2 y0 y1 y2 X2 Y2 R2 HB2 hN1 hN2
  all_goals obtain ⟨x0, x1, x2, f0, f1, f2⟩ := id X5
  all_goals obtain ⟨y0, y1, y2, f3, f4, f5⟩ := id Y5
  all_goals go_wp2_with fail
  all_goals go_region_held3 (fun wx => Below w.heap.size w wx ∧ wx.cell? ⟨w.heap.size, 0, none⟩ = some (.bool xs) ∧ wx.cell? ⟨w.heap.size, 1, none⟩ = some (.slice p1 q1 r1) ∧ wx.cell? ⟨w.heap.size, 2, none⟩ = some (.int .i64 xe) ∧ wx.cell? ⟨w.heap.size + 1, 0, none⟩ = some (.bool ys) ∧ wx.cell? ⟨w.heap.size + 1, 1, none⟩ = some (.slice p2 q2 r2) ∧ wx.cell? ⟨w.heap.size + 1, 2, none⟩ = some (.int .i64 ye)) (first | (refine ⟨?_, ?_, ?_, ?_, ?_, ?_, ?_⟩ <;> first | assumption | exact Below.drew (by assumption)) | exact ⟨Below.fill3 HB7 (by omega) _ _ _, (X7.other3 (by omega) _ _ _).c0, (X7.other3 (by omega) _ _ _).c1, (X7.other3 (by omega) _ _ _).c2, (Y7.other3 (by omega) _ _ _).c0, (Y7.other3 (by omega) _ _ _).c1, (Y7.other3 (by omega) _ _ _).c2⟩) ((first | (go_at_call 91; (with_reducible refine (rmul_n (xm * ym) (Num.drew L1) (Num.drew L2) (by rw [valL_limbs, valL_limbs]) hlen).mono ?_); rintro e v6 ⟨p6, q6, r6, rfl, M6, hb⟩; have X6 := (X5.drew).below hb; have Y6 := (Y5.drew).below hb; have R6 := (R5.drew).below hb; have HB6 := below_step (w0 := w) (Below.drew HB5) hb; have hD6 := hD _ _ _ _ M6; clear x0 x1 x2 f0 f1 f2 y0 y1 y2 f3 f4 f5; obtain ⟨x0, x1, x2, f0, f1, f2⟩ := id X6; obtain ⟨y0, y1, y2, f3, f4, f5⟩ := id Y6; clear hb) | (go_at_call 55; (with_reducible refine hD6.mono ?_); rintro e v7 ⟨p7, q7, r7, rfl, M7, hb⟩; have X7 := X6.below hb; have Y7 := Y6.below hb; have R7 := R6.below hb; have HB7 := below_step (w0 := w) HB6 hb; clear x0 x1 x2 f0 f1 f2 y0 y1 y2 f3 f4 f5; obtain ⟨x0, x1, x2, f0, f1, f2⟩ := id X7; obtain ⟨y0, y1, y2, f3, f4, f5⟩ := id Y7; obtain ⟨r0, r1', r2', g0, g1, g2⟩ := id R7; clear hb)))
  all_goals go_wp2_with fail
  all_goals exact bodyPost_ret (v := .tuple #[.agg #[.bool zs, .slice p7 q7 r7, .int .i64 ze], .int .i64 r]) (by simp [results, Tryz.results43, go_sem, r0, r1', r2', g0, g1, g2]) rfl ⟨p7, q7, r7, rfl, Num.fill R7 M7 .., Below.fill3 HB7 (by omega) _ _ _⟩
theorem rMul3_bad1 (s s' : Bool) (e e' : Int) (h1 : Num w a n c l) (hl : l.length ≤ 4000) (hm : ¬ mayE e) :
    Calls Tryz.prog 43 #[.agg #[.bool s, .slice a n c, .int .i64 e], .agg #[.bool s', .slice b m d, .int .i64 e']] w fun x w' => ∃ a' n' c', x = .returned (.tuple #[.agg #[.bool false, .slice a' n' c', .int .i64 0], .int .i64 2]) ∧ Num w' a' n' c' (limbs 0) ∧ Below w.heap.size w w' := by
  obtain ⟨X0, Y0, R0⟩ := three_boxes w s s' a b n c m d e e' 24
  have hM1 := fun w' (hb : Below w.heap.size w w') => rMay3_any s e (h1.below hb) hl
  simp only [decide_eq_false hm] at hM1
  clear hm h1
  go_enter Tryz.func43, Tryz.ntmps43
  go_wp2_with fail
  refine (hM1 _ (by repeat' (first | exact Below.refl _ _ | refine below_alloc ?_ _))).mono ?_
  rintro x w1 ⟨rfl, hb⟩
  have R1 := R0.below hb
  have HB1 := below_step (w0 := w) (by (repeat' (first | exact Below.refl _ _ | assumption | (refine below_alloc ?_ _) | (refine Below.setCell ?_ ?_ _) | (refine Below.drew ?_) | (refine below_drewN ?_ _))) <;> (first | (simp; done) | (simp; omega) | omega)) hb
  clear hb X0 Y0 R0 hM1
  obtain ⟨r0, r1, r2, g0, g1, g2⟩ := id R1
  go_wp2_with fail
  exact bodyPost_ret (v := .tuple #[.agg #[.bool false, .slice none 0 0, .int .i64 0], .int .i64 2]) (by simp [results, Tryz.results43, go_sem, r0, r1, r2, g0, g1, g2]) rfl ⟨none, 0, 0, rfl, (by show Num _ _ _ _ (limbs 0); rw [limbs_zero]; exact Num.nil _), by (repeat' (first | exact Below.refl _ _ | assumption | (refine below_alloc ?_ _) | (refine Below.setCell ?_ ?_ _) | (refine Below.drew ?_) | (refine below_drewN ?_ _))) <;> (first | (simp; done) | (simp; omega) | omega)⟩
theorem rMul3_bad2 (s s' : Bool) (e e' : Int) (h1 : Num w a n c l) (h2 : Num w b m d k) (hl : l.length ≤ 4000) (hl' : k.length ≤ 4000) (hm : mayE e) (hm' : ¬ mayE e') :
    Calls Tryz.prog 43 #[.agg #[.bool s, .slice a n c, .int .i64 e], .agg #[.bool s', .slice b m d, .int .i64 e']] w fun x w' => ∃ a' n' c', x = .returned (.tuple #[.agg #[.bool false, .slice a' n' c', .int .i64 0], .int .i64 2]) ∧ Num w' a' n' c' (limbs 0) ∧ Below w.heap.size w w' := by
  obtain ⟨X0, Y0, R0⟩ := three_boxes w s s' a b n c m d e e' 24
  have hM1 := fun w' (hb : Below w.heap.size w w') => rMay3_any s e (h1.below hb) hl
  have hM2 := fun w' (hb : Below w.heap.size w w') => rMay3_any s' e' (h2.below hb) hl'
  simp only [decide_eq_true hm] at hM1
  simp only [decide_eq_false hm'] at hM2
  clear hm hm' h1 h2
  go_enter Tryz.func43, Tryz.ntmps43
  go_wp2_with fail
  refine (hM1 _ (by repeat' (first | exact Below.refl _ _ | refine below_alloc ?_ _))).mono ?_
  rintro x w1 ⟨rfl, hb⟩
  have Y1 := Y0.below hb
  have R1 := R0.below hb
  have HB1 := below_step (w0 := w) (by (repeat' (first | exact Below.refl _ _ | assumption | (refine below_alloc ?_ _) | (refine Below.setCell ?_ ?_ _) | (refine Below.drew ?_) | (refine below_drewN ?_ _))) <;> (first | (simp; done) | (simp; omega) | omega)) hb
  clear hb X0 Y0 R0 hM1
  obtain ⟨y0, y1, y2, _, _, _⟩ := id Y1
  go_wp2_with fail
  refine (hM2 _ HB1).mono ?_
  rintro x w2 ⟨rfl, hb⟩
  have R2 := R1.below hb
  have HB2 := below_step HB1 hb
  clear hb Y1 R1 hM2 HB1 y0 y1 y2
  obtain ⟨r0, r1, r2, g0, g1, g2⟩ := id R2
  go_wp2_with fail
  exact bodyPost_ret (v := .tuple #[.agg #[.bool false, .slice none 0 0, .int .i64 0], .int .i64 2]) (by simp [results, Tryz.results43, go_sem, r0, r1, r2, g0, g1, g2]) rfl ⟨none, 0, 0, rfl, (by show Num _ _ _ _ (limbs 0); rw [limbs_zero]; exact Num.nil _), by (repeat' (first | exact Below.refl _ _ | assumption | (refine below_alloc ?_ _) | (refine Below.setCell ?_ ?_ _) | (refine Below.drew ?_) | (refine below_drewN ?_ _))) <;> (first | (simp; done) | (simp; omega) | omega)⟩
theorem rMul3_any (s s' : Bool) (e e' : Int) (R : Dy) (r : Int) (h1 : Num w a n c l) (h2 : Num w b m d k) (hl : l.length + k.length ≤ 1000) (hO : mulO ⟨s, valL l, e⟩ ⟨s', valL k, e'⟩ = (R, r)) :
    Calls Tryz.prog 43 #[.agg #[.bool s, .slice a n c, .int .i64 e], .agg #[.bool s', .slice b m d, .int .i64 e']] w fun x w' => ∃ a' n' c', x = .returned (.tuple #[.agg #[.bool R.s, .slice a' n' c', .int .i64 R.e], .int .i64 r]) ∧ Num w' a' n' c' (limbs R.m) ∧ Below w.heap.size w w' := by
  by_cases hm : mayE e
  · by_cases hm' : mayE e'
    · exact rMul3_ok s s' e e' R r h1 h2 hl hm hm' hO
    · unfold mulO at hO
      rw [if_neg (fun h => hm' h.2)] at hO
      obtain ⟨rfl, rfl⟩ : zeroD = R ∧ 2 = r := ⟨congrArg Prod.fst hO, congrArg Prod.snd hO⟩
      exact rMul3_bad2 s s' e e' h1 h2 (by omega) (by omega) hm hm'
  · unfold mulO at hO
    rw [if_neg (fun h => hm h.1)] at hO
    obtain ⟨rfl, rfl⟩ : zeroD = R ∧ 2 = r := ⟨congrArg Prod.fst hO, congrArg Prod.snd hO⟩
    exact rMul3_bad1 s s' e e' h1 (by omega) hm
end
end Go.Proofs.YtjlaadadbpffdaaGreatDoor

namespace Go.Proofs.YtjlaadadbpffdaaGreatDoor
open Go.RowKit Go.Plumb
theorem dDot_bad (w : World) (p p' : Option Addr) (N C N' C' : Nat) (hne : N ≠ N') : Calls Tryz.prog 63 #[.slice p N C, .slice p' N' C'] w fun x w' => ∃ a' n' c', x = .returned (.tuple #[.agg #[.bool false, .slice a' n' c', .int .i64 0], .int .i64 2]) ∧ Num w' a' n' c' (limbs 0) ∧ Below w.heap.size w w' := by
  have h : (N == N') = false := by simp; exact hne
  clear hne
  have R0 := Boxed3.new w false none 0 0 0 24 (g := w.heap.size) rfl
  obtain ⟨r0, r1, r2, g0, g1, g2⟩ := id R0
  go_enter Tryz.func63, Tryz.ntmps63
  go_wp2_with fail
  refine wp_scope_straight ?_
  go_wp2_with fail
  (try simp only [Exit.noGoto])
  exact bodyPost_ret (v := .tuple #[.agg #[.bool false, .slice none 0 0, .int .i64 0], .int .i64 2]) (by simp [results, Tryz.results63, go_sem, r0, r1, r2, g0, g1, g2]) rfl ⟨none, 0, 0, rfl, (by show Num _ _ _ _ (limbs 0); rw [limbs_zero]; exact Num.nil _), by (repeat' (first | exact Below.refl _ _ | assumption | (refine below_alloc ?_ _) | (refine Below.setCell ?_ ?_ _) | (refine Below.drew ?_) | (refine below_drewN ?_ _))) <;> (first | (simp; done) | (simp; omega) | omega)⟩
theorem rDot3_bad (w : World) (p p' : Option Addr) (N C N' C' : Nat) (hne : N ≠ N') : Calls Tryz.prog 64 #[.slice p N C, .slice p' N' C'] w fun x w' => ∃ a' n' c', x = .returned (.tuple #[.agg #[.bool false, .slice a' n' c', .int .i64 0], .int .i64 2]) ∧ Num w' a' n' c' (limbs 0) ∧ Below w.heap.size w w' := by
  have h : (N == N') = false := by simp; exact hne
  clear hne
  have R0 := Boxed3.new w false none 0 0 0 24 (g := w.heap.size) rfl
  obtain ⟨r0, r1, r2, g0, g1, g2⟩ := id R0
  go_enter Tryz.func64, Tryz.ntmps64
  go_wp2_with fail
  exact bodyPost_ret (v := .tuple #[.agg #[.bool false, .slice none 0 0, .int .i64 0], .int .i64 2]) (by simp [results, Tryz.results64, go_sem, r0, r1, r2, g0, g1, g2]) rfl ⟨none, 0, 0, rfl, (by show Num _ _ _ _ (limbs 0); rw [limbs_zero]; exact Num.nil _), by (repeat' (first | exact Below.refl _ _ | assumption | (refine below_alloc ?_ _) | (refine Below.setCell ?_ ?_ _) | (refine Below.drew ?_) | (refine below_drewN ?_ _))) <;> (first | (simp; done) | (simp; omega) | omega)⟩
set_option maxHeartbeats 8000000 in
set_option maxRecDepth 20000 in
theorem dDot_any (w : World) (p p' : Option Addr) (g off g' off' N C C' : Nat) (s s' : Nat → Bool) (a a' : Nat → Option Addr) (n c n' c' : Nat → Nat) (e e' : Nat → Int) (L L' : Nat → List Nat) (M T : Nat → Dy) (hT : Tab w) (hN : N ≤ C) (hC : C ≤ maxLen) (hp : 0 < N → p = some ⟨g, off, none⟩) (hp' : 0 < N → p' = some ⟨g', off', none⟩) (hR : RowD w g off N s a n c e) (hR' : RowD w g' off' N s' a' n' c' e')
    (hL : ∀ i, i < N → (Num w (a i) (n i) (c i) (L i) ∧ (L i).length ≤ 400) ∧ Num w (a' i) (n' i) (c' i) (L' i) ∧ (L' i).length ≤ 400) (hlT : ∀ i, i ≤ N → (limbs (T i).m).length ≤ 400) (hlM : ∀ i, i < N → (limbs (M i).m).length ≤ 400) (h0 : T 0 = zeroD)
    (hst : ∀ i, i < N → mulO ⟨s i, valL (L i), e i⟩ ⟨s' i, valL (L' i), e' i⟩ = (M i, 0) ∧ addO (T i) (M i) = (T (i + 1), 0) ∧ (farD (nrm (T i)) (nrm (M i)) ∨ nearD (nrm (T i)) (nrm (M i)))) :
    Calls Tryz.prog 63 #[.slice p N C, .slice p' N C'] w fun x w' => ∃ a' n' c', x = .returned (.tuple #[.agg #[.bool (T N).s, .slice a' n' c', .int .i64 (T N).e], .int .i64 0]) ∧ Num w' a' n' c' (limbs (T N).m) ∧ Below w.heap.size w w' := by
  have hmx : (N : Int) ≤ 9223372036854775807 := by unfold maxLen at hC; omega
  obtain ⟨W0, hW0⟩ : ∃ W0, (w.alloc (.cells #[.bool false, .slice none 0 0, .int .i64 0] 24)).alloc (.cells #[.bool false, .slice none 0 0, .int .i64 0] 24) = W0 := ⟨_, rfl⟩
  have R0 : Boxed3 W0 w.heap.size false none 0 0 0 := by rw [← hW0]; exact (Boxed3.new _ _ _ _ _ _ _ rfl).alloc _
  have S0 : Boxed3 W0 (w.heap.size + 1) false none 0 0 0 := by rw [← hW0]; exact Boxed3.new _ _ _ _ _ _ _ (by simp)
  have HB0 : Below w.heap.size w W0 := by rw [← hW0]; (repeat' (first | exact Below.refl _ _ | assumption | (refine below_alloc ?_ _) | (refine Below.setCell ?_ ?_ _) | (refine Below.drew ?_) | (refine below_drewN ?_ _))) <;> (first | (simp; done) | (simp; omega) | omega)
  have HR := Lib.hid (And.intro hR hR')
  have HL := Lib.hid hL
  have HT := Lib.hid (And.intro hlT hlM)
  have HS := Lib.hid hst
  have H0 := Lib.hid h0
  have HW := Lib.hid hW0
  have HP := Lib.hid (And.intro hp hp')
  clear hR hR' hL hlT hlM hst hW0 hp hp' h0
  go_enter Tryz.func63, Tryz.ntmps63
  go_wp2_with fail
  refine wp_scope_straight ?_
  go_wp2_with fail
  refine wp_label ?_
  go_wp2_with fail
  rw [HW.out]
  go_loopw [7, 19] (fun ve v wr => ve = .int .i64 0 ∧ ∃ (i : Nat) (aS : Option Addr) (nS cS : Nat), v = .int .i64 (i : Int) ∧ Hid (i ≤ N) ∧ Hid (Below w.heap.size w wr) ∧ Hid (Boxed3 wr w.heap.size false none 0 0 0) ∧ Hid (Boxed3 wr (w.heap.size + 1) (T i).s aS nS cS (T i).e) ∧ Hid (Num wr aS nS cS (limbs (T i).m))) (fun _ v _ => N - (intOf v).toNat)
  case atStart =>
    refine ⟨rfl, 0, none, 0, 0, rfl, Lib.hid (Nat.zero_le _), Lib.hid HB0, Lib.hid R0, Lib.hid ?_, Lib.hid ?_⟩
    · rw [H0.out]; exact S0
    · rw [H0.out]; exact (by show Num _ _ _ _ (limbs 0); rw [limbs_zero]; exact Num.nil _)
  case round =>
    obtain ⟨rfl, i, aS, nS, cS, rfl, hi, hB, hRb, hSb, hSn⟩ := hrel
    clear R0 S0 HB0
    by_cases hlt : i < N
    · obtain rfl : p = some ⟨g, off, none⟩ := HP.out.1 (by omega)
      obtain rfl : p' = some ⟨g', off', none⟩ := HP.out.2 (by omega)
      obtain ⟨c0, c1, c2⟩ := HR.out.1 i hlt
      obtain ⟨d0, d1, d2⟩ := HR.out.2 i hlt
      have hg := cell_lt c0
      have hg' := cell_lt d0
      obtain ⟨⟨hk0, hl1⟩, hk1, hl1'⟩ := HL.out i hlt
      obtain ⟨hst0, hst1, hst2⟩ := HS.out i hlt
      have hc := (fun b o (h : b < w.heap.size) => hB.out.cell (p := ⟨b, o, none⟩) h)
      have e0 := (hc _ _ hg).trans c0
      have e1 := (hc _ _ hg).trans c1
      have e2 := (hc _ _ hg).trans c2
      have u0 := (hc _ _ hg').trans d0
      have u1 := (hc _ _ hg').trans d1
      have u2 := (hc _ _ hg').trans d2
      have z1 : (0 : Int) ≤ (i : Int) := by omega
      have z2 : (i : Int) < (N : Int) := by omega
      have hE := hk0.below hB.out
      have hE' := hk1.below hB.out
      have hl2 := HT.out.1 i (Nat.le_of_lt hlt)
      have hl3 := HT.out.1 (i + 1) hlt
      have hl4 := HT.out.2 i hlt
      obtain ⟨T1, hT1⟩ : ∃ D, T i = D := ⟨_, rfl⟩
      obtain ⟨T2, hT2⟩ : ∃ D, T (i + 1) = D := ⟨_, rfl⟩
      obtain ⟨M1, hM1⟩ : ∃ D, M i = D := ⟨_, rfl⟩
      rw [hT1] at hst1 hst2 hl2 hSb hSn
      rw [hT2] at hst1 hl3
      rw [hM1] at hst0 hst1 hst2 hl4
      obtain ⟨si, hsi⟩ : ∃ x, s i = x := ⟨_, rfl⟩
      obtain ⟨ai, hai⟩ : ∃ x, a i = x := ⟨_, rfl⟩
      obtain ⟨ni, hni⟩ : ∃ x, n i = x := ⟨_, rfl⟩
      obtain ⟨ci, hci⟩ : ∃ x, c i = x := ⟨_, rfl⟩
      obtain ⟨ei, hei⟩ : ∃ x, e i = x := ⟨_, rfl⟩
      obtain ⟨li, hli⟩ : ∃ x, L i = x := ⟨_, rfl⟩
      obtain ⟨si', hsi'⟩ : ∃ x, s' i = x := ⟨_, rfl⟩
      obtain ⟨ai', hai'⟩ : ∃ x, a' i = x := ⟨_, rfl⟩
      obtain ⟨ni', hni'⟩ : ∃ x, n' i = x := ⟨_, rfl⟩
      obtain ⟨ci', hci'⟩ : ∃ x, c' i = x := ⟨_, rfl⟩
      obtain ⟨ei', hei'⟩ : ∃ x, e' i = x := ⟨_, rfl⟩
      obtain ⟨li', hli'⟩ : ∃ x, L' i = x := ⟨_, rfl⟩
      rw [hsi, hsi', hei, hei', hli, hli'] at hst0
      rw [hsi] at e0
      rw [hsi'] at u0
      rw [hai, hni, hci] at e1 hE
      rw [hai', hni', hci'] at u1 hE'
      rw [hei] at e2
      rw [hei'] at u2
      rw [hli] at hE hl1
      rw [hli'] at hE' hl1'
      have eT : (⟨T1.s, valL (limbs T1.m), T1.e⟩ : Dy) = T1 := by rw [valL_limbs]
      have eM : (⟨M1.s, valL (limbs M1.m), M1.e⟩ : Dy) = M1 := by rw [valL_limbs]
      have hMu := fun wx (hb : Below wr.heap.size wr wx) => dMul_v si si' ei ei' M1 0 (hT.below (below_step hB.out hb)) (hE.below hb) (hE'.below hb) rfl rfl (by omega) hst0
      have hAd := fun wx p4 p5 p6 (hb : Below wr.heap.size wr wx) (n2 : Num wx p4 p5 p6 (limbs M1.m)) => dAdd_v T1.s M1.s T1.e M1.e T2 0 (hT.below (below_step hB.out hb)) (hSn.out.below hb) n2 (valL_limbs _) (valL_limbs _) (by omega) hst2 hst1
      have hgr : g < wr.heap.size := Nat.lt_of_lt_of_le hg hB.out.size
      have hgr' : g' < wr.heap.size := Nat.lt_of_lt_of_le hg' hB.out.size
      have HSS : Hid (∀ wx, Below wr.heap.size wr wx → Below wr.heap.size wr wx ∧ wx.cell? ⟨g, off + i * 3, none⟩ = some (.bool si) ∧ wx.cell? ⟨g, off + i * 3 + 1, none⟩ = some (.slice ai ni ci) ∧ wx.cell? ⟨g, off + i * 3 + 2, none⟩ = some (.int .i64 ei) ∧ wx.cell? ⟨g', off' + i * 3, none⟩ = some (.bool si') ∧ wx.cell? ⟨g', off' + i * 3 + 1, none⟩ = some (.slice ai' ni' ci') ∧ wx.cell? ⟨g', off' + i * 3 + 2, none⟩ = some (.int .i64 ei')) := Lib.hid (fun wx h => ⟨h, ((bcell h).1 _ _ hgr).trans e0, ((bcell h).1 _ _ hgr).trans e1, ((bcell h).1 _ _ hgr).trans e2, ((bcell h).1 _ _ hgr').trans u0, ((bcell h).1 _ _ hgr').trans u1, ((bcell h).1 _ _ hgr').trans u2⟩)
      have NB := Boxed3.new wr false none 0 0 0 24 (g := wr.heap.size) rfl
      have HB9 := Below.refl wr.heap.size wr
      have HLT := Lib.hid (And.intro hlt hT2)
      clear hlt hT1 hT2 hM1 hsi hai hni hci hei hli hsi' hai' hni' hci' hei' hli' c0 c1 c2 d0 d1 d2 hk0 hk1 hst0 hst1 hst2 hc hE hE' hl1 hl1' hl2 hl3 hl4 eT eM
      go_wp2_with fail
      have zw : IntKind.i64.wrap (i : Int) = (i : Int) := IntWalk.i64_in _ ⟨by omega, by omega⟩
      have zn : ((i : Int)).toNat = i := Int.toNat_natCast i
      go_region_held3 (fun wx => Below wr.heap.size wr wx ∧ wx.cell? ⟨g, off + i * 3, none⟩ = some (.bool si) ∧ wx.cell? ⟨g, off + i * 3 + 1, none⟩ = some (.slice ai ni ci) ∧ wx.cell? ⟨g, off + i * 3 + 2, none⟩ = some (.int .i64 ei) ∧ wx.cell? ⟨g', off' + i * 3, none⟩ = some (.bool si') ∧ wx.cell? ⟨g', off' + i * 3 + 1, none⟩ = some (.slice ai' ni' ci') ∧ wx.cell? ⟨g', off' + i * 3 + 2, none⟩ = some (.int .i64 ei')) (first | exact HSS.out _ (by assumption) | exact HSS.out _ (by (repeat' (first | exact Below.refl _ _ | assumption | (refine below_alloc ?_ _) | (refine Below.setCell ?_ ?_ _) | (refine Below.drew ?_) | (refine below_drewN ?_ _))) <;> (first | (simp; done) | (simp; omega) | omega))) ((first | (go_at_call 42; (with_reducible refine (hMu _ (by first | assumption | ((repeat' (first | exact Below.refl _ _ | assumption | (refine below_alloc ?_ _) | (refine Below.setCell ?_ ?_ _) | (refine Below.drew ?_) | (refine below_drewN ?_ _))) <;> (first | (simp; done) | (simp; omega) | omega)))).mono ?_); rintro x v2 ⟨a2, n2, c2, rfl, N2, hb⟩; have HB9 := below_step (w0 := wr) (by first | assumption | ((repeat' (first | exact Below.refl _ _ | assumption | (refine below_alloc ?_ _) | (refine Below.setCell ?_ ?_ _) | (refine Below.drew ?_) | (refine below_drewN ?_ _))) <;> (first | (simp; done) | (simp; omega) | omega))) hb; have hs9 := HB9.size; (try (have P1 := Boxed3.below (b := wr.heap.size) (by first | exact NB | exact Boxed3.drew NB | exact Boxed3.drew (Boxed3.drew NB)) hb; obtain ⟨p0, p1, p2, p3, p4, p5⟩ := id P1)); clear hb)))
      · obtain ⟨W5, hW5⟩ : ∃ W5, v2.alloc (.cells #[.bool M1.s, .slice a2 n2 c2, .int .i64 M1.e] 24) = W5 := ⟨_, rfl⟩
        have NX : Boxed3 W5 v2.heap.size M1.s a2 n2 c2 M1.e := by rw [← hW5]; exact Boxed3.new v2 _ _ _ _ _ _ rfl
        have N5 : Num W5 a2 n2 c2 (limbs M1.m) := by rw [← hW5]; exact N2.below (below_alloc (Below.refl _ _) _)
        have HB5 : Below wr.heap.size wr W5 := by rw [← hW5]; exact below_alloc HB9 _
        have SX := hSb.out.below HB5
        have RX := hRb.out.below HB5
        have hA5 := hAd _ _ _ _ HB5 N5
        have hB5 := below_step hB.out HB5
        try rw [hW5]
        clear hW5 hMu hAd HB9 N2 hSb hSn hRb hB e0 e1 e2 u0 u1 u2 NB HSS HB5 N5
        have SX9 := Lib.hid SX
        have RX9 := Lib.hid RX
        obtain ⟨x0, x1, x2, f0, f1, f2⟩ := id SX
        obtain ⟨q0, q1, q2, _, _, _⟩ := id NX
        clear SX RX
        go_wp2_with fail
        refine hA5.mono ?_
        rintro x w6 ⟨a6, n6, c6, rfl, N6, hb⟩
        have SX6 := SX9.out.below hb
        have RX6 := RX9.out.below hb
        have hB6 := below_step hB5 hb
        have N7 := N6
        clear hA5 hb SX9 RX9 x0 x1 x2 f0 f1 f2 q0 q1 q2 NX hB5 N6
        obtain ⟨x0, x1, x2, f0, f1, f2⟩ := id SX6
        go_wp2_with fail
        refine ⟨⟨rfl, i + 1, a6, n6, c6, by go_num, Lib.hid HLT.out.1, Lib.hid (Below.fill3 hB6 (Nat.le_succ _) _ _ _), Lib.hid (RX6.other3 (by omega) _ _ _), Lib.hid ?_, Lib.hid ?_⟩, by simp [intOf]; have := HLT.out.1; omega⟩
        · rw [HLT.out.2]; exact SX6.fill ..
        · rw [HLT.out.2]; exact Num.fill SX6 N7 ..
      · obtain ⟨W5, hW5⟩ : ∃ W5, ((v2.setCell ⟨wr.heap.size, 0, none⟩ (.bool M1.s)).setCell ⟨wr.heap.size, 1, none⟩ (.slice a2 n2 c2)).setCell ⟨wr.heap.size, 2, none⟩ (.int .i64 M1.e) = W5 := ⟨_, rfl⟩
        have NX : Boxed3 W5 wr.heap.size M1.s a2 n2 c2 M1.e := by rw [← hW5]; exact P1.fill ..
        have N5 : Num W5 a2 n2 c2 (limbs M1.m) := by rw [← hW5]; exact Num.fill P1 N2 ..
        have HB5 : Below wr.heap.size wr W5 := by rw [← hW5]; exact Below.fill3 HB9 (Nat.le_refl _) _ _ _
        clear P1 p0 p1 p2 p3 p4 p5
        have SX := hSb.out.below HB5
        have RX := hRb.out.below HB5
        have hA5 := hAd _ _ _ _ HB5 N5
        have hB5 := below_step hB.out HB5
        try rw [hW5]
        clear hW5 hMu hAd HB9 N2 hSb hSn hRb hB e0 e1 e2 u0 u1 u2 NB HSS HB5 N5
        have SX9 := Lib.hid SX
        have RX9 := Lib.hid RX
        obtain ⟨x0, x1, x2, f0, f1, f2⟩ := id SX
        obtain ⟨q0, q1, q2, _, _, _⟩ := id NX
        clear SX RX
        go_wp2_with fail
        refine hA5.mono ?_
        rintro x w6 ⟨a6, n6, c6, rfl, N6, hb⟩
        have SX6 := SX9.out.below hb
        have RX6 := RX9.out.below hb
        have hB6 := below_step hB5 hb
        have N7 := N6
        clear hA5 hb SX9 RX9 x0 x1 x2 f0 f1 f2 q0 q1 q2 NX hB5 N6
        obtain ⟨x0, x1, x2, f0, f1, f2⟩ := id SX6
        go_wp2_with fail
        refine ⟨⟨rfl, i + 1, a6, n6, c6, by go_num, Lib.hid HLT.out.1, Lib.hid (Below.fill3 hB6 (Nat.le_succ _) _ _ _), Lib.hid (RX6.other3 (by omega) _ _ _), Lib.hid ?_, Lib.hid ?_⟩, by simp [intOf]; have := HLT.out.1; omega⟩
        · rw [HLT.out.2]; exact SX6.fill ..
        · rw [HLT.out.2]; exact Num.fill SX6 N7 ..
    · have hiN : i = N := by have := hi.out; omega
      subst hiN
      obtain ⟨x0, x1, x2, f0, f1, f2⟩ := id hSb.out
      obtain ⟨r0, r1, r2, g0, g1, g2⟩ := id hRb.out
      clear hlt
      go_wp2_with fail
      (try simp only [Exit.noGoto])
      exact bodyPost_ret (v := .tuple #[.agg #[.bool (T i).s, .slice aS nS cS, .int .i64 (T i).e], .int .i64 0]) (by simp [results, Tryz.results63, go_sem, r0, r1, r2, g0, g1, g2]) rfl ⟨aS, nS, cS, rfl, Num.fill hRb.out hSn.out .., Below.fill3 hB.out (Nat.le_refl _) _ _ _⟩
set_option maxHeartbeats 8000000 in
set_option maxRecDepth 20000 in
theorem rDot3_any (w : World) (p p' : Option Addr) (g off g' off' N C C' : Nat) (s s' : Nat → Bool) (a a' : Nat → Option Addr) (n c n' c' : Nat → Nat) (e e' : Nat → Int) (L L' : Nat → List Nat) (M T : Nat → Dy) (hN : N ≤ C) (hC : C ≤ maxLen) (hp : 0 < N → p = some ⟨g, off, none⟩) (hp' : 0 < N → p' = some ⟨g', off', none⟩) (hR : RowD w g off N s a n c e) (hR' : RowD w g' off' N s' a' n' c' e')
    (hL : ∀ i, i < N → (Num w (a i) (n i) (c i) (L i) ∧ (L i).length ≤ 400) ∧ Num w (a' i) (n' i) (c' i) (L' i) ∧ (L' i).length ≤ 400) (hlT : ∀ i, i ≤ N → (limbs (T i).m).length ≤ 400) (hlM : ∀ i, i < N → (limbs (M i).m).length ≤ 400) (h0 : T 0 = zeroD)
    (hst : ∀ i, i < N → mulO ⟨s i, valL (L i), e i⟩ ⟨s' i, valL (L' i), e' i⟩ = (M i, 0) ∧ addO (T i) (M i) = (T (i + 1), 0) ∧ (farD (nrm (T i)) (nrm (M i)) ∨ nearD (nrm (T i)) (nrm (M i)))) :
    Calls Tryz.prog 64 #[.slice p N C, .slice p' N C'] w fun x w' => ∃ a' n' c', x = .returned (.tuple #[.agg #[.bool (T N).s, .slice a' n' c', .int .i64 (T N).e], .int .i64 0]) ∧ Num w' a' n' c' (limbs (T N).m) ∧ Below w.heap.size w w' := by
  have hmx : (N : Int) ≤ 9223372036854775807 := by unfold maxLen at hC; omega
  obtain ⟨W0, hW0⟩ : ∃ W0, (w.alloc (.cells #[.bool false, .slice none 0 0, .int .i64 0] 24)).alloc (.cells #[.bool false, .slice none 0 0, .int .i64 0] 24) = W0 := ⟨_, rfl⟩
  have R0 : Boxed3 W0 w.heap.size false none 0 0 0 := by rw [← hW0]; exact (Boxed3.new _ _ _ _ _ _ _ rfl).alloc _
  have S0 : Boxed3 W0 (w.heap.size + 1) false none 0 0 0 := by rw [← hW0]; exact Boxed3.new _ _ _ _ _ _ _ (by simp)
  have HB0 : Below w.heap.size w W0 := by rw [← hW0]; (repeat' (first | exact Below.refl _ _ | assumption | (refine below_alloc ?_ _) | (refine Below.setCell ?_ ?_ _) | (refine Below.drew ?_) | (refine below_drewN ?_ _))) <;> (first | (simp; done) | (simp; omega) | omega)
  have HR := Lib.hid (And.intro hR hR')
  have HL := Lib.hid hL
  have HT := Lib.hid (And.intro hlT hlM)
  have HS := Lib.hid hst
  have H0 := Lib.hid h0
  have HW := Lib.hid hW0
  have HP := Lib.hid (And.intro hp hp')
  clear hR hR' hL hlT hlM hst hW0 hp hp' h0
  go_enter Tryz.func64, Tryz.ntmps64
  go_wp2_with fail
  rw [HW.out]
  go_loopw [7] (fun v wr => ∃ (i : Nat) (aS : Option Addr) (nS cS : Nat), v = .int .i64 (i : Int) ∧ Hid (i ≤ N) ∧ Hid (Below w.heap.size w wr) ∧ Hid (Boxed3 wr w.heap.size false none 0 0 0) ∧ Hid (Boxed3 wr (w.heap.size + 1) (T i).s aS nS cS (T i).e) ∧ Hid (Num wr aS nS cS (limbs (T i).m))) (fun v _ => N - (intOf v).toNat)
  case atStart =>
    refine ⟨0, none, 0, 0, rfl, Lib.hid (Nat.zero_le _), Lib.hid HB0, Lib.hid R0, Lib.hid ?_, Lib.hid ?_⟩
    · rw [H0.out]; exact S0
    · rw [H0.out]; exact (by show Num _ _ _ _ (limbs 0); rw [limbs_zero]; exact Num.nil _)
  case round =>
    obtain ⟨i, aS, nS, cS, rfl, hi, hB, hRb, hSb, hSn⟩ := hrel
    clear R0 S0 HB0
    by_cases hlt : i < N
    · obtain rfl : p = some ⟨g, off, none⟩ := HP.out.1 (by omega)
      obtain rfl : p' = some ⟨g', off', none⟩ := HP.out.2 (by omega)
      obtain ⟨c0, c1, c2⟩ := HR.out.1 i hlt
      obtain ⟨d0, d1, d2⟩ := HR.out.2 i hlt
      have hg := cell_lt c0
      have hg' := cell_lt d0
      obtain ⟨⟨hk0, hl1⟩, hk1, hl1'⟩ := HL.out i hlt
      obtain ⟨hst0, hst1, hst2⟩ := HS.out i hlt
      have hc := (fun b o (h : b < w.heap.size) => hB.out.cell (p := ⟨b, o, none⟩) h)
      have e0 := (hc _ _ hg).trans c0
      have e1 := (hc _ _ hg).trans c1
      have e2 := (hc _ _ hg).trans c2
      have u0 := (hc _ _ hg').trans d0
      have u1 := (hc _ _ hg').trans d1
      have u2 := (hc _ _ hg').trans d2
      have z1 : (0 : Int) ≤ (i : Int) := by omega
      have z2 : (i : Int) < (N : Int) := by omega
      have hE := hk0.below hB.out
      have hE' := hk1.below hB.out
      have hl2 := HT.out.1 i (Nat.le_of_lt hlt)
      have hl3 := HT.out.1 (i + 1) hlt
      have hl4 := HT.out.2 i hlt
      obtain ⟨T1, hT1⟩ : ∃ D, T i = D := ⟨_, rfl⟩
      obtain ⟨T2, hT2⟩ : ∃ D, T (i + 1) = D := ⟨_, rfl⟩
      obtain ⟨M1, hM1⟩ : ∃ D, M i = D := ⟨_, rfl⟩
      rw [hT1] at hst1 hst2 hl2 hSb hSn
      rw [hT2] at hst1 hl3
      rw [hM1] at hst0 hst1 hst2 hl4
      obtain ⟨si, hsi⟩ : ∃ x, s i = x := ⟨_, rfl⟩
      obtain ⟨ai, hai⟩ : ∃ x, a i = x := ⟨_, rfl⟩
      obtain ⟨ni, hni⟩ : ∃ x, n i = x := ⟨_, rfl⟩
      obtain ⟨ci, hci⟩ : ∃ x, c i = x := ⟨_, rfl⟩
      obtain ⟨ei, hei⟩ : ∃ x, e i = x := ⟨_, rfl⟩
      obtain ⟨li, hli⟩ : ∃ x, L i = x := ⟨_, rfl⟩
      obtain ⟨si', hsi'⟩ : ∃ x, s' i = x := ⟨_, rfl⟩
      obtain ⟨ai', hai'⟩ : ∃ x, a' i = x := ⟨_, rfl⟩
      obtain ⟨ni', hni'⟩ : ∃ x, n' i = x := ⟨_, rfl⟩
      obtain ⟨ci', hci'⟩ : ∃ x, c' i = x := ⟨_, rfl⟩
      obtain ⟨ei', hei'⟩ : ∃ x, e' i = x := ⟨_, rfl⟩
      obtain ⟨li', hli'⟩ : ∃ x, L' i = x := ⟨_, rfl⟩
      rw [hsi, hsi', hei, hei', hli, hli'] at hst0
      rw [hsi] at e0
      rw [hsi'] at u0
      rw [hai, hni, hci] at e1 hE
      rw [hai', hni', hci'] at u1 hE'
      rw [hei] at e2
      rw [hei'] at u2
      rw [hli] at hE hl1
      rw [hli'] at hE' hl1'
      have eT : (⟨T1.s, valL (limbs T1.m), T1.e⟩ : Dy) = T1 := by rw [valL_limbs]
      have eM : (⟨M1.s, valL (limbs M1.m), M1.e⟩ : Dy) = M1 := by rw [valL_limbs]
      have hMu := fun wx (hb : Below wr.heap.size wr wx) => rMul3_any si si' ei ei' M1 0 (hE.below hb) (hE'.below hb) (by omega) hst0
      have hAd := fun wx p4 p5 p6 (hb : Below wr.heap.size wr wx) (n2 : Num wx p4 p5 p6 (limbs M1.m)) => rAdd3_any T1.s M1.s T1.e M1.e T2 0 (hSn.out.below hb) n2 (by omega) (by rw [eT, eM]; exact hst2) (by rw [eT, eM]; exact hst1)
      have hgr : g < wr.heap.size := Nat.lt_of_lt_of_le hg hB.out.size
      have hgr' : g' < wr.heap.size := Nat.lt_of_lt_of_le hg' hB.out.size
      have HSS : Hid (∀ wx, Below wr.heap.size wr wx → Below wr.heap.size wr wx ∧ wx.cell? ⟨g, off + i * 3, none⟩ = some (.bool si) ∧ wx.cell? ⟨g, off + i * 3 + 1, none⟩ = some (.slice ai ni ci) ∧ wx.cell? ⟨g, off + i * 3 + 2, none⟩ = some (.int .i64 ei) ∧ wx.cell? ⟨g', off' + i * 3, none⟩ = some (.bool si') ∧ wx.cell? ⟨g', off' + i * 3 + 1, none⟩ = some (.slice ai' ni' ci') ∧ wx.cell? ⟨g', off' + i * 3 + 2, none⟩ = some (.int .i64 ei')) := Lib.hid (fun wx h => ⟨h, ((bcell h).1 _ _ hgr).trans e0, ((bcell h).1 _ _ hgr).trans e1, ((bcell h).1 _ _ hgr).trans e2, ((bcell h).1 _ _ hgr').trans u0, ((bcell h).1 _ _ hgr').trans u1, ((bcell h).1 _ _ hgr').trans u2⟩)
      have NB := Boxed3.new wr false none 0 0 0 24 (g := wr.heap.size) rfl
      have HB9 := Below.refl wr.heap.size wr
      have HLT := Lib.hid (And.intro hlt hT2)
      clear hlt hT1 hT2 hM1 hsi hai hni hci hei hli hsi' hai' hni' hci' hei' hli' c0 c1 c2 d0 d1 d2 hk0 hk1 hst0 hst1 hst2 hc hE hE' hl1 hl1' hl2 hl3 hl4 eT eM
      go_wp2_with fail
      have zw : IntKind.i64.wrap (i : Int) = (i : Int) := IntWalk.i64_in _ ⟨by omega, by omega⟩
      have zn : ((i : Int)).toNat = i := Int.toNat_natCast i
      go_region_held3 (fun wx => Below wr.heap.size wr wx ∧ wx.cell? ⟨g, off + i * 3, none⟩ = some (.bool si) ∧ wx.cell? ⟨g, off + i * 3 + 1, none⟩ = some (.slice ai ni ci) ∧ wx.cell? ⟨g, off + i * 3 + 2, none⟩ = some (.int .i64 ei) ∧ wx.cell? ⟨g', off' + i * 3, none⟩ = some (.bool si') ∧ wx.cell? ⟨g', off' + i * 3 + 1, none⟩ = some (.slice ai' ni' ci') ∧ wx.cell? ⟨g', off' + i * 3 + 2, none⟩ = some (.int .i64 ei')) (first | exact HSS.out _ (by assumption) | exact HSS.out _ (by (repeat' (first | exact Below.refl _ _ | assumption | (refine below_alloc ?_ _) | (refine Below.setCell ?_ ?_ _) | (refine Below.drew ?_) | (refine below_drewN ?_ _))) <;> (first | (simp; done) | (simp; omega) | omega))) ((first | (go_at_call 43; (with_reducible refine (hMu _ (by first | assumption | ((repeat' (first | exact Below.refl _ _ | assumption | (refine below_alloc ?_ _) | (refine Below.setCell ?_ ?_ _) | (refine Below.drew ?_) | (refine below_drewN ?_ _))) <;> (first | (simp; done) | (simp; omega) | omega)))).mono ?_); rintro x v2 ⟨a2, n2, c2, rfl, N2, hb⟩; have HB9 := below_step (w0 := wr) (by first | assumption | ((repeat' (first | exact Below.refl _ _ | assumption | (refine below_alloc ?_ _) | (refine Below.setCell ?_ ?_ _) | (refine Below.drew ?_) | (refine below_drewN ?_ _))) <;> (first | (simp; done) | (simp; omega) | omega))) hb; have hs9 := HB9.size; (try (have P1 := Boxed3.below (b := wr.heap.size) (by first | exact NB | exact Boxed3.drew NB | exact Boxed3.drew (Boxed3.drew NB)) hb; obtain ⟨p0, p1, p2, p3, p4, p5⟩ := id P1)); clear hb)))
      · obtain ⟨W5, hW5⟩ : ∃ W5, v2.alloc (.cells #[.bool M1.s, .slice a2 n2 c2, .int .i64 M1.e] 24) = W5 := ⟨_, rfl⟩
        have NX : Boxed3 W5 v2.heap.size M1.s a2 n2 c2 M1.e := by rw [← hW5]; exact Boxed3.new v2 _ _ _ _ _ _ rfl
        have N5 : Num W5 a2 n2 c2 (limbs M1.m) := by rw [← hW5]; exact N2.below (below_alloc (Below.refl _ _) _)
        have HB5 : Below wr.heap.size wr W5 := by rw [← hW5]; exact below_alloc HB9 _
        have SX := hSb.out.below HB5
        have RX := hRb.out.below HB5
        have hA5 := hAd _ _ _ _ HB5 N5
        have hB5 := below_step hB.out HB5
        try rw [hW5]
        clear hW5 hMu hAd HB9 N2 hSb hSn hRb hB e0 e1 e2 u0 u1 u2 NB HSS HB5 N5
        have SX9 := Lib.hid SX
        have RX9 := Lib.hid RX
        obtain ⟨x0, x1, x2, f0, f1, f2⟩ := id SX
        obtain ⟨q0, q1, q2, _, _, _⟩ := id NX
        clear SX RX
        go_wp2_with fail
        refine hA5.mono ?_
        rintro x w6 ⟨a6, n6, c6, rfl, N6, hb⟩
        have hb6 := below_alloc hb (.cells #[.bool T2.s, .slice a6 n6 c6, .int .i64 T2.e] 24)
        have SX6 := SX9.out.below hb6
        have RX6 := RX9.out.below hb6
        have hB6 := below_step hB5 hb6
        have N7 : Num (w6.alloc (.cells #[.bool T2.s, .slice a6 n6 c6, .int .i64 T2.e] 24)) a6 n6 c6 (limbs T2.m) := N6.below (below_alloc (Below.refl _ _) _)
        clear hA5 hb SX9 RX9 x0 x1 x2 f0 f1 f2 q0 q1 q2 NX hB5 N6
        obtain ⟨x0, x1, x2, f0, f1, f2⟩ := id SX6
        go_wp2_with fail
        refine ⟨⟨i + 1, a6, n6, c6, by go_num, Lib.hid HLT.out.1, Lib.hid (Below.fill3 hB6 (Nat.le_succ _) _ _ _), Lib.hid (RX6.other3 (by omega) _ _ _), Lib.hid ?_, Lib.hid ?_⟩, by simp [intOf]; have := HLT.out.1; omega⟩
        · rw [HLT.out.2]; exact SX6.fill ..
        · rw [HLT.out.2]; exact Num.fill SX6 N7 ..
      · obtain ⟨W5, hW5⟩ : ∃ W5, ((v2.setCell ⟨wr.heap.size, 0, none⟩ (.bool M1.s)).setCell ⟨wr.heap.size, 1, none⟩ (.slice a2 n2 c2)).setCell ⟨wr.heap.size, 2, none⟩ (.int .i64 M1.e) = W5 := ⟨_, rfl⟩
        have NX : Boxed3 W5 wr.heap.size M1.s a2 n2 c2 M1.e := by rw [← hW5]; exact P1.fill ..
        have N5 : Num W5 a2 n2 c2 (limbs M1.m) := by rw [← hW5]; exact Num.fill P1 N2 ..
        have HB5 : Below wr.heap.size wr W5 := by rw [← hW5]; exact Below.fill3 HB9 (Nat.le_refl _) _ _ _
        clear P1 p0 p1 p2 p3 p4 p5
        have SX := hSb.out.below HB5
        have RX := hRb.out.below HB5
        have hA5 := hAd _ _ _ _ HB5 N5
        have hB5 := below_step hB.out HB5
        try rw [hW5]
        clear hW5 hMu hAd HB9 N2 hSb hSn hRb hB e0 e1 e2 u0 u1 u2 NB HSS HB5 N5
        have SX9 := Lib.hid SX
        have RX9 := Lib.hid RX
        obtain ⟨x0, x1, x2, f0, f1, f2⟩ := id SX
        obtain ⟨q0, q1, q2, _, _, _⟩ := id NX
        clear SX RX
        go_wp2_with fail
        refine hA5.mono ?_
        rintro x w6 ⟨a6, n6, c6, rfl, N6, hb⟩
        have hb6 := below_alloc hb (.cells #[.bool T2.s, .slice a6 n6 c6, .int .i64 T2.e] 24)
        have SX6 := SX9.out.below hb6
        have RX6 := RX9.out.below hb6
        have hB6 := below_step hB5 hb6
        have N7 : Num (w6.alloc (.cells #[.bool T2.s, .slice a6 n6 c6, .int .i64 T2.e] 24)) a6 n6 c6 (limbs T2.m) := N6.below (below_alloc (Below.refl _ _) _)
        clear hA5 hb SX9 RX9 x0 x1 x2 f0 f1 f2 q0 q1 q2 NX hB5 N6
        obtain ⟨x0, x1, x2, f0, f1, f2⟩ := id SX6
        go_wp2_with fail
        refine ⟨⟨i + 1, a6, n6, c6, by go_num, Lib.hid HLT.out.1, Lib.hid (Below.fill3 hB6 (Nat.le_succ _) _ _ _), Lib.hid (RX6.other3 (by omega) _ _ _), Lib.hid ?_, Lib.hid ?_⟩, by simp [intOf]; have := HLT.out.1; omega⟩
        · rw [HLT.out.2]; exact SX6.fill ..
        · rw [HLT.out.2]; exact Num.fill SX6 N7 ..
    · have hiN : i = N := by have := hi.out; omega
      subst hiN
      obtain ⟨x0, x1, x2, f0, f1, f2⟩ := id hSb.out
      obtain ⟨r0, r1, r2, g0, g1, g2⟩ := id hRb.out
      clear hlt
      go_wp2_with fail
      skip
      exact bodyPost_ret (v := .tuple #[.agg #[.bool (T i).s, .slice aS nS cS, .int .i64 (T i).e], .int .i64 0]) (by simp [results, Tryz.results64, go_sem, r0, r1, r2, g0, g1, g2]) rfl ⟨aS, nS, cS, rfl, Num.fill hRb.out hSn.out .., Below.fill3 hB.out (Nat.le_refl _) _ _ _⟩
end Go.Proofs.YtjlaadadbpffdaaGreatDoor
