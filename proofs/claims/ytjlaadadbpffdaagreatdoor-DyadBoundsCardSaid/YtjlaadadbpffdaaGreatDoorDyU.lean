/-
  dyad.Sum of a list whose partial sums may all be.
-/
import Derived.Test.YtjlaadadbpffdaaGreatDoorDyO
import Derived.Test.YtjlaadadbpffdaaGreatDoorDySm
set_option linter.unusedSimpArgs false
set_option linter.unusedVariables false
namespace Go.Proofs.YtjlaadadbpffdaaGreatDoor
open Go.RowKit Go.Plumb
set_option maxHeartbeats 4000000 in
set_option maxRecDepth 20000 in
theorem dSum_any (w : World) (g off N C : Nat) (s : Nat → Bool) (a : Nat → Option Addr) (n c : Nat → Nat) (e : Nat → Int) (L : Nat → List Nat) (T : Nat → Dy) (hT : Tab w) (hN : N ≤ C) (hC : C ≤ maxLen) (hg : g < w.heap.size) (hR : RowD w g off N s a n c e)
    (hL : ∀ i, i < N → Num w (a i) (n i) (c i) (L i) ∧ (L i).length ≤ 400) (hlT : ∀ i, i ≤ N → (limbs (T i).m).length ≤ 400) (h0 : T 0 = zeroD)
    (hst : ∀ i, i < N → addO (T i) ⟨s i, valL (L i), e i⟩ = (T (i + 1), 0) ∧ (farD (nrm (T i)) (nrm ⟨s i, valL (L i), e i⟩) ∨ nearD (nrm (T i)) (nrm ⟨s i, valL (L i), e i⟩))) :
    Calls Tryz.prog 60 #[.slice (some ⟨g, off, none⟩) N C] w fun x w' => ∃ a' n' c', x = .returned (.tuple #[.agg #[.bool (T N).s, .slice a' n' c', .int .i64 (T N).e], .int .i64 0]) ∧ Num w' a' n' c' (limbs (T N).m) ∧ Below w.heap.size w w' := by
  have hmx : (N : Int) ≤ 9223372036854775807 := by unfold maxLen at hC; omega
  obtain ⟨W0, hW0⟩ : ∃ W0, (w.alloc (.cells #[.bool false, .slice none 0 0, .int .i64 0] 24)).alloc (.cells #[.bool false, .slice none 0 0, .int .i64 0] 24) = W0 := ⟨_, rfl⟩
  have R0 : Boxed3 W0 w.heap.size false none 0 0 0 := by rw [← hW0]; exact (Boxed3.new _ _ _ _ _ _ _ rfl).alloc _
  have S0 : Boxed3 W0 (w.heap.size + 1) false none 0 0 0 := by rw [← hW0]; exact Boxed3.new _ _ _ _ _ _ _ (by simp)
  have HB0 : Below w.heap.size w W0 := by rw [← hW0]; (repeat' (first | exact Below.refl _ _ | assumption | (refine below_alloc ?_ _) | (refine Below.setCell ?_ ?_ _) | (refine Below.drew ?_) | (refine below_drewN ?_ _))) <;> (first | (simp; done) | (simp; omega) | omega)
  have HR := Lib.hid hR
  have HL := Lib.hid hL
  have HT := Lib.hid hlT
  have HS := Lib.hid hst
  have H0 := Lib.hid h0
  have HW := Lib.hid hW0
  clear hR hL hlT hst hW0
  go_enter Tryz.func60, Tryz.ntmps60
  go_wp2_with fail
  rw [HW.out]
  go_loopw [11] (fun v wr => ∃ (i : Nat) (aS : Option Addr) (nS cS : Nat), v = .int .i64 (i : Int) ∧ Hid (i ≤ N) ∧ Hid (Below w.heap.size w wr) ∧ Hid (Boxed3 wr w.heap.size false none 0 0 0) ∧ Hid (Boxed3 wr (w.heap.size + 1) (T i).s aS nS cS (T i).e) ∧ Hid (Num wr aS nS cS (limbs (T i).m))) (fun v _ => N - (intOf v).toNat)
  case atStart =>
    refine ⟨0, none, 0, 0, rfl, Lib.hid (Nat.zero_le _), Lib.hid HB0, Lib.hid R0, Lib.hid ?_, Lib.hid ?_⟩
    · rw [H0.out]; exact S0
    · rw [H0.out]; exact (by show Num _ _ _ _ (limbs 0); rw [limbs_zero]; exact Num.nil _)
  case round =>
    obtain ⟨i, aS, nS, cS, rfl, hi, hB, hRb, hSb, hSn⟩ := hrel
    clear R0 S0 HB0 h0
    by_cases hlt : i < N
    · obtain ⟨c0, c1, c2⟩ := HR.out i hlt
      obtain ⟨hk0, _⟩ := HL.out i hlt
      obtain ⟨hst1, hst2⟩ := HS.out i hlt
      have hc := (fun b o (h : b < w.heap.size) => hB.out.cell (p := ⟨b, o, none⟩) h)
      have e0 := (hc _ _ hg).trans c0
      have e1 := (hc _ _ hg).trans c1
      have e2 := (hc _ _ hg).trans c2
      have z1 : (0 : Int) ≤ (i : Int) := by omega
      have z2 : (i : Int) < (N : Int) := by omega
      have hE := hk0.below hB.out
      have hl1 := (HL.out i hlt).2
      have hl2 := HT.out i (Nat.le_of_lt hlt)
      have hl3 := HT.out (i + 1) hlt
      obtain ⟨T1, hT1⟩ : ∃ D, T i = D := ⟨_, rfl⟩
      obtain ⟨T2, hT2⟩ : ∃ D, T (i + 1) = D := ⟨_, rfl⟩
      rw [hT1] at hst1 hst2 hl2 hSb hSn
      rw [hT2] at hst1 hl3
      obtain ⟨si, hsi⟩ : ∃ x, s i = x := ⟨_, rfl⟩
      obtain ⟨ai, hai⟩ : ∃ x, a i = x := ⟨_, rfl⟩
      obtain ⟨ni, hni⟩ : ∃ x, n i = x := ⟨_, rfl⟩
      obtain ⟨ci, hci⟩ : ∃ x, c i = x := ⟨_, rfl⟩
      obtain ⟨ei, hei⟩ : ∃ x, e i = x := ⟨_, rfl⟩
      obtain ⟨li, hli⟩ : ∃ x, L i = x := ⟨_, rfl⟩
      rw [hsi] at e0 hst1 hst2
      rw [hai, hni, hci] at e1 hE
      rw [hei] at e2 hst1 hst2
      rw [hli] at hE hst1 hst2 hl1
      have hA := fun w' (hb : Below wr.heap.size wr w') => dAdd_v T1.s si T1.e ei T2 0 (hT.below (below_step hB.out hb)) (hSn.out.below hb) (hE.below hb) (valL_limbs _) rfl (by omega) hst2 hst1
      obtain ⟨x0, x1, x2, f0, f1, f2⟩ := id (hSb.out.alloc (.cells #[.bool si, .slice ai ni ci, .int .i64 ei] 24))
      have HLT := Lib.hid (And.intro hlt hT2)
      clear hlt hT1 hT2 hsi hai hni hci hei hli c0 c1 c2 hk0 hst1 hst2 hc hE hl1 hl2 hl3
      go_wp2_with fail
      refine (hA _ (by repeat' (first | exact Below.refl _ _ | refine below_alloc ?_ _))).mono ?_
      rintro x w2 ⟨a2, n2, c2, rfl, N2, hb⟩
      have S2 := ((hSb.out.alloc (.cells #[.bool si, .slice ai ni ci, .int .i64 ei] 24)).below hb).alloc (.cells #[.bool T2.s, .slice a2 n2 c2, .int .i64 T2.e] 24)
      have R2 := ((hRb.out.alloc (.cells #[.bool si, .slice ai ni ci, .int .i64 ei] 24)).below hb).alloc (.cells #[.bool T2.s, .slice a2 n2 c2, .int .i64 T2.e] 24)
      have hB2 : Below w.heap.size w (w2.alloc (.cells #[.bool T2.s, .slice a2 n2 c2, .int .i64 T2.e] 24)) := below_alloc (below_step (below_alloc hB.out _) hb) _
      have N3 : Num (w2.alloc (.cells #[.bool T2.s, .slice a2 n2 c2, .int .i64 T2.e] 24)) a2 n2 c2 (limbs T2.m) := N2.below (below_alloc (Below.refl _ _) _)
      clear hA hb x0 x1 x2 f0 f1 f2 e0 e1 e2 hB hRb hSb hSn N2
      obtain ⟨x0, x1, x2, f0, f1, f2⟩ := id S2
      go_wp2_with fail
      refine ⟨⟨i + 1, a2, n2, c2, by go_num, Lib.hid HLT.out.1, Lib.hid (Below.fill3 hB2 (Nat.le_succ _) _ _ _), Lib.hid (R2.other3 (by omega) _ _ _), Lib.hid ?_, Lib.hid ?_⟩, by simp [intOf]; have := HLT.out.1; omega⟩
      · rw [HLT.out.2]; exact S2.fill ..
      · rw [HLT.out.2]; exact Num.fill S2 N3 ..
    · have hiN : i = N := by have := hi.out; omega
      subst hiN
      obtain ⟨x0, x1, x2, f0, f1, f2⟩ := id hSb.out
      obtain ⟨r0, r1, r2, g0, g1, g2⟩ := id hRb.out
      clear hlt
      go_wp2_with fail
      exact bodyPost_ret (v := .tuple #[.agg #[.bool (T i).s, .slice aS nS cS, .int .i64 (T i).e], .int .i64 0]) (by simp [results, Tryz.results60, go_sem, r0, r1, r2, g0, g1, g2]) rfl ⟨aS, nS, cS, rfl, Num.fill hRb.out hSn.out .., Below.fill3 hB.out (Nat.le_refl _) _ _ _⟩
end Go.Proofs.YtjlaadadbpffdaaGreatDoor
