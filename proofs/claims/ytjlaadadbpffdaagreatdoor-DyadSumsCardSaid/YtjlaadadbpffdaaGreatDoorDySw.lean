/-
  Layer 3's laws, walked: DyadSums.
-/
import Derived.Test.YtjlaadadbpffdaaGreatDoorDbS
import Derived.Test.YtjlaadadbpffdaaGreatDoorDyX
import Derived.Test.YtjlaadadbpffdaaGreatDoorDyFl
set_option linter.unusedSimpArgs false
set_option linter.unusedVariables false
namespace Go.Proofs.YtjlaadadbpffdaaGreatDoor
open Go.RowKit Go.Plumb
theorem rowD_below {w w' : World} {g off N : Nat} {s : Nat → Bool} {a : Nat → Option Addr} {n c : Nat → Nat} {e : Nat → Int} (h : RowD w g off N s a n c e) (hb : Below w.heap.size w w') : RowD w' g off N s a n c e := by
  intro i hi
  obtain ⟨c0, c1, c2⟩ := h i hi
  have hg := cell_lt c0
  exact ⟨((bcell hb).1 _ _ hg).trans c0, ((bcell hb).1 _ _ hg).trans c1, ((bcell hb).1 _ _ hg).trans c2⟩
theorem listD_below {w w' : World} {q : Option Addr} {g off N C : Nat} {s : Nat → Bool} {a : Nat → Option Addr} {n c : Nat → Nat} {L : Nat → List Nat} {e : Nat → Int} (h : ListD w q g off N C s a n c L e) (hb : Below w.heap.size w w') : ListD w' q g off N C s a n c L e :=
  ⟨h.at0, h.le, h.max, rowD_below h.row hb, fun i hi => (h.num i hi).below hb, h.exp⟩
theorem listD_nmax {w : World} {q : Option Addr} {g off N C : Nat} {s : Nat → Bool} {a : Nat → Option Addr} {n c : Nat → Nat} {L : Nat → List Nat} {e : Nat → Int} (h : ListD w q g off N C s a n c L e) : ∀ i, i < N → n i ≤ 9223372036854775807 := by
  intro i hi
  have h0 := h.num i hi
  have h1 := h0.1; have h2 := h0.2.1; have h3 := h0.2.2.1; unfold maxLen at h3; omega
/-- What a list's numbers are. -/
def itemD (s : Nat → Bool) (L : Nat → List Nat) (e : Nat → Int) (i : Nat) : Dy := ⟨s i, valL (L i), e i⟩
theorem item_fit {w : World} {q : Option Addr} {g off N C : Nat} {s : Nat → Bool} {a : Nat → Option Addr} {n c : Nat → Nat} {L : Nat → List Nat} {e : Nat → Int} (h : ListD w q g off N C s a n c L e) (hok : ∀ i, i < N → okD n e i) (K : Nat) (hK : K = 4256) :
    ∀ i, i < N → Fit 2000 K (itemD s L e i) ∧ mayE (itemD s L e i).e := by
  intro i hi
  obtain ⟨k1, k2, k3⟩ := hok i hi
  have hn := h.num i hi
  exact ⟨Fit.raw hn.limbs (by have := hn.1; omega) k2 k3 hK, by show mayE (e i); unfold mayE; omega⟩
theorem sums_any (w : World) (q : Option Addr) (g off N C : Nat) (s : Nat → Bool) (a : Nat → Option Addr) (n c : Nat → Nat) (L : Nat → List Nat) (e : Nat → Int) (hT : Tab w) (H : ListD w q g off N C s a n c L e) (hok : ∀ i, i < N → okD n e i) (hN : N ≤ 30) :
    ∃ R : Dy, (∀ wx, Below w.heap.size w wx → Calls Tryz.prog 60 #[.slice q N C] wx fun x w' => ∃ a' n' c', x = .returned (.tuple #[.agg #[.bool R.s, .slice a' n' c', .int .i64 R.e], .int .i64 0]) ∧ Num w' a' n' c' (limbs R.m) ∧ Below wx.heap.size wx w') ∧
      (∀ wx, Below w.heap.size w wx → Calls Tryz.prog 62 #[.slice q N C] wx fun x w' => ∃ a' n' c', x = .returned (.tuple #[.agg #[.bool R.s, .slice a' n' c', .int .i64 R.e], .int .i64 0]) ∧ Num w' a' n' c' (limbs R.m) ∧ Below wx.heap.size wx w') ∧ (limbs R.m).length ≤ 400 := by
  obtain ⟨K, hK⟩ : ∃ K, K = 4256 := ⟨_, rfl⟩
  have hf := item_fit H hok K hK
  have hlen : ∀ i, i < N → (L i).length ≤ 400 := fun i hi => by have := (hok i hi).1; have := (H.num i hi).1; omega
  have hlT := sumT_len (P := 2000) (K := K) (by decide) (by omega) hN (by omega) hf
  have hst := sumT_step (P := 2000) (K := K) (by decide) (by omega) hN (by omega) hf
  refine ⟨sumT (itemD s L e) N, fun wx hb => ?_, fun wx hb => ?_, hlT N (Nat.le_refl _)⟩
  · have H' := listD_below H hb
    exact dSump_any wx q g off N C s a n c e L (sumT (itemD s L e)) (hT.below hb) H'.le H'.max H'.at0 H'.row (fun i hi => ⟨H'.num i hi, hlen i hi⟩) hlT rfl hst
  · have H' := listD_below H hb
    exact rSum3_any wx q g off N C s a n c e L (sumT (itemD s L e)) H'.le H'.max H'.at0 H'.row (fun i hi => ⟨H'.num i hi, hlen i hi⟩) hlT rfl hst
theorem dots_any (w : World) (q : Option Addr) (g off N C : Nat) (s : Nat → Bool) (a : Nat → Option Addr) (n c : Nat → Nat) (L : Nat → List Nat) (e : Nat → Int) (q' : Option Addr) (g' off' N' C' : Nat) (s' : Nat → Bool) (a' : Nat → Option Addr) (n' c' : Nat → Nat) (L' : Nat → List Nat) (e' : Nat → Int) (hT : Tab w) (H : ListD w q g off N C s a n c L e) (H' : ListD w q' g' off' N' C' s' a' n' c' L' e') (hok : ∀ i, i < N → okD n e i) (hok' : ∀ i, i < N' → okD n' e' i) (hN : N ≤ 30) (hN' : N' ≤ 30) :
    ∃ (R : Dy) (r : Int), (∀ wx, Below w.heap.size w wx → Calls Tryz.prog 63 #[.slice q N C, .slice q' N' C'] wx fun x w' => ∃ a' n' c', x = .returned (.tuple #[.agg #[.bool R.s, .slice a' n' c', .int .i64 R.e], .int .i64 r]) ∧ Num w' a' n' c' (limbs R.m) ∧ Below wx.heap.size wx w') ∧
      (∀ wx, Below w.heap.size w wx → Calls Tryz.prog 64 #[.slice q N C, .slice q' N' C'] wx fun x w' => ∃ a' n' c', x = .returned (.tuple #[.agg #[.bool R.s, .slice a' n' c', .int .i64 R.e], .int .i64 r]) ∧ Num w' a' n' c' (limbs R.m) ∧ Below wx.heap.size wx w') ∧ (limbs R.m).length ≤ 400 := by
  by_cases hne : N = N'
  · subst hne
    obtain ⟨K, hK⟩ : ∃ K, K = 4256 := ⟨_, rfl⟩
    have hf := item_fit H hok K hK
    have hf' := item_fit H' hok' K hK
    have hp : ∀ i, i < N → _ := fun i hi => prod_fit hK (hf i hi).1 (hf' i hi).1 (hf i hi).2 (hf' i hi).2
    have hlen : ∀ i, i < N → (L i).length ≤ 400 := fun i hi => by have := (hok i hi).1; have := (H.num i hi).1; omega
    have hlen' : ∀ i, i < N → (L' i).length ≤ 400 := fun i hi => by have := (hok' i hi).1; have := (H'.num i hi).1; omega
    have hfm : ∀ i, i < N → Fit 4000 (K + K) (nrm (mulD (itemD s L e i) (itemD s' L' e' i))) ∧ mayE (nrm (mulD (itemD s L e i) (itemD s' L' e' i))).e := fun i hi => (hp i hi).2
    have hlT := sumT_len (P := 4000) (K := K + K) (f := fun i => nrm (mulD (itemD s L e i) (itemD s' L' e' i))) (by decide) (by omega) hN (by omega) hfm
    have hst := sumT_step (P := 4000) (K := K + K) (f := fun i => nrm (mulD (itemD s L e i) (itemD s' L' e' i))) (by decide) (by omega) hN (by omega) hfm
    have hlM : ∀ i, i < N → (limbs (nrm (mulD (itemD s L e i) (itemD s' L' e' i))).m).length ≤ 400 := fun i hi => by have := (hfm i hi).1.len; omega
    refine ⟨sumT (fun i => nrm (mulD (itemD s L e i) (itemD s' L' e' i))) N, 0, fun wx hb => ?_, fun wx hb => ?_, hlT N (Nat.le_refl _)⟩
    · have H1 := listD_below H hb
      have H2 := listD_below H' hb
      exact dDot_any wx q q' g off g' off' N C C' s s' a a' n c n' c' e e' L L' (fun i => nrm (mulD (itemD s L e i) (itemD s' L' e' i))) (sumT (fun i => nrm (mulD (itemD s L e i) (itemD s' L' e' i)))) (hT.below hb) H1.le H1.max H1.at0 H2.at0 H1.row H2.row (fun i hi => ⟨⟨H1.num i hi, hlen i hi⟩, H2.num i hi, hlen' i hi⟩) hlT hlM rfl (fun i hi => ⟨(hp i hi).1, hst i hi⟩)
    · have H1 := listD_below H hb
      have H2 := listD_below H' hb
      exact rDot3_any wx q q' g off g' off' N C C' s s' a a' n c n' c' e e' L L' (fun i => nrm (mulD (itemD s L e i) (itemD s' L' e' i))) (sumT (fun i => nrm (mulD (itemD s L e i) (itemD s' L' e' i)))) H1.le H1.max H1.at0 H2.at0 H1.row H2.row (fun i hi => ⟨⟨H1.num i hi, hlen i hi⟩, H2.num i hi, hlen' i hi⟩) hlT hlM rfl (fun i hi => ⟨(hp i hi).1, hst i hi⟩)
  · exact ⟨zeroD, 2, fun wx _ => dDot_bad wx q q' N C N' C' hne, fun wx _ => rDot3_bad wx q q' N C N' C' hne, by show (limbs 0).length ≤ 400; rw [limbs_zero]; decide⟩
set_option maxRecDepth 100000 in
set_option maxHeartbeats 4000000 in
theorem w_DyadSums (w : World) (hT : Tab w) (hQ : PowT Tryz.prog w) (q : Option Addr) (g off N C : Nat) (s : Nat → Bool) (a : Nat → Option Addr) (n c : Nat → Nat) (L : Nat → List Nat) (e : Nat → Int) (H : ListD w q g off N C s a n c L e) (q' : Option Addr) (g' off' N' C' : Nat) (s' : Nat → Bool) (a' : Nat → Option Addr) (n' c' : Nat → Nat) (L' : Nat → List Nat) (e' : Nat → Int) (H' : ListD w q' g' off' N' C' s' a' n' c' L' e') :
    Calls Tryz.prog 15 #[.slice q N C, .slice q' N' C'] w fun x w' => x = .returned (.bool true) ∧ Below w.heap.size w w' := by
  have A1 := smallp_any w q g off N C s a n c e H.le H.max H.at0 H.row (listD_nmax H)
  have A2 := smallp_any w q' g' off' N' C' s' a' n' c' e' H'.le H'.max H'.at0 H'.row (listD_nmax H')
  have hK := fun wx (hb : Below w.heap.size w wx) => known3_any wx (hT.below hb) (PowT_below hQ hb)
  by_cases h1 : (∀ i, i < N → okD n e i) ∧ N ≤ 30
  · have V1 : ∀ v, SmallV N n e v → v = .bool true := fun v ⟨bl, hv, hb⟩ => by rw [hv, hb.2 h1]
    by_cases h2 : (∀ i, i < N' → okD n' e' i) ∧ N' ≤ 30
    · have V2 : ∀ v, SmallV N' n' e' v → v = .bool true := fun v ⟨bl, hv, hb⟩ => by rw [hv, hb.2 h2]
      obtain ⟨R, S1, S2, lR⟩ := sums_any w q g off N C s a n c L e hT H h1.1 h1.2
      obtain ⟨D, d, D1, D2, lD⟩ := dots_any w q g off N C s a n c L e q' g' off' N' C' s' a' n' c' L' e' hT H H' h1.1 h2.1 h1.2 h2.2
      have HL := Lib.hid (And.intro lR lD)
      have HV := Lib.hid (And.intro V1 V2)
      clear H H' h1 h2 lR lD hT hQ V1 V2
      go_enter Tryz.func15, Tryz.ntmps15
      go_wp2_with fail
      refine A1.mono ?_
      rintro x w' ⟨v, rfl, hv, rfl⟩
      obtain rfl := HV.out.1 v hv
      clear hv A1
      go_wp2_with fail
      refine A2.mono ?_
      rintro x w' ⟨v, rfl, hv, rfl⟩
      obtain rfl := HV.out.2 v hv
      clear hv A2
      go_wp2_with fail
      refine (S1 _ (by repeat' (first | exact Below.refl _ _ | refine below_alloc ?_ _))).mono ?_
      rintro x w1 ⟨a1, n1, c1, rfl, h0, hb⟩
      have HB1 := hb
      have N1 := Lib.hid h0
      have B1 := Lib.hid (Boxed3.new w1 R.s a1 n1 c1 R.e 24 (g := w1.heap.size) rfl)
      clear h0 hb S1
      go_wp2_with fail
      refine (S2 _ (below_alloc HB1 _)).mono ?_
      rintro x w2 ⟨a2, n2, c2, rfl, h0, hb⟩
      have hb9 := below_step (below_alloc (Below.refl w1.heap.size w1) (.cells #[.bool R.s, .slice a1 n1 c1, .int .i64 R.e] 24)) hb
      have HB2 := below_step HB1 hb9
      replace N1 := Lib.hid (N1.out.below hb9)
      replace B1 := Lib.hid (B1.out.below hb)
      have N2 := Lib.hid h0
      have B2 := Lib.hid (Boxed3.new w2 R.s a2 n2 c2 R.e 24 (g := w2.heap.size) rfl)
      clear h0 hb hb9 HB1 S2
      go_wp2_with fail
      refine (D1 _ (below_alloc HB2 _)).mono ?_
      rintro x w3 ⟨a3, n3, c3, rfl, h0, hb⟩
      have hb9 := below_step (below_alloc (Below.refl w2.heap.size w2) (.cells #[.bool R.s, .slice a2 n2 c2, .int .i64 R.e] 24)) hb
      have HB3 := below_step HB2 hb9
      replace N1 := Lib.hid (N1.out.below hb9)
      replace B1 := Lib.hid (B1.out.below hb9)
      replace N2 := Lib.hid (N2.out.below hb9)
      replace B2 := Lib.hid (B2.out.below hb)
      have N3 := Lib.hid h0
      have B3 := Lib.hid (Boxed3.new w3 D.s a3 n3 c3 D.e 24 (g := w3.heap.size) rfl)
      clear h0 hb hb9 HB2 D1
      go_wp2_with fail
      refine (D2 _ (below_alloc HB3 _)).mono ?_
      rintro x w4 ⟨a4, n4, c4, rfl, h0, hb⟩
      have hb9 := below_step (below_alloc (Below.refl w3.heap.size w3) (.cells #[.bool D.s, .slice a3 n3 c3, .int .i64 D.e] 24)) hb
      have hb8 := below_alloc (Below.refl w4.heap.size w4) (.cells #[.bool D.s, .slice a4 n4 c4, .int .i64 D.e] 24)
      have HB4 := below_alloc (below_step HB3 hb9) (.cells #[.bool D.s, .slice a4 n4 c4, .int .i64 D.e] 24)
      replace N1 := Lib.hid ((N1.out.below hb9).below hb8)
      replace B1 := Lib.hid ((B1.out.below hb9).below hb8)
      replace N2 := Lib.hid ((N2.out.below hb9).below hb8)
      replace B2 := Lib.hid ((B2.out.below hb9).below hb8)
      replace N3 := Lib.hid ((N3.out.below hb9).below hb8)
      replace B3 := Lib.hid ((B3.out.below hb).below hb8)
      have N4 := Lib.hid (h0.below hb8)
      have B4 := Lib.hid (Boxed3.new w4 D.s a4 n4 c4 D.e 24 (g := w4.heap.size) rfl)
      have Q1 := rsame3_any R.s R.e N1.out N2.out rfl (Nat.le_trans HL.out.1 (by decide))
      have Q2 := fun wx (h : Below (w4.alloc (.cells #[.bool D.s, .slice a4 n4 c4, .int .i64 D.e] 24)).heap.size (w4.alloc (.cells #[.bool D.s, .slice a4 n4 c4, .int .i64 D.e] 24)) wx) => rsame3_any D.s D.e (N3.out.below h) (N4.out.below h) rfl (Nat.le_trans HL.out.2 (by decide))
      clear h0 hb hb9 hb8 HB3 D2
      obtain ⟨x0, x1, x2, _, _, _⟩ := id B1.out
      obtain ⟨y0, y1, y2, _, _, _⟩ := id B2.out
      go_wp2_with fail
      refine Q1.mono ?_
      rintro x w6 ⟨rfl, hb⟩
      have HB6 := hb
      replace B3 := Lib.hid (B3.out.below hb)
      replace B4 := Lib.hid (B4.out.below hb)
      clear x0 x1 x2 y0 y1 y2 hb
      obtain ⟨x0, x1, x2, _, _, _⟩ := id B3.out
      obtain ⟨y0, y1, y2, _, _, _⟩ := id B4.out
      go_wp2_with fail
      refine (num3_any 0 _).mono ?_
      rintro z w' ⟨rfl, rfl⟩
      go_wp2_with fail
      refine (Q2 _ HB6).mono ?_
      rintro x w7 ⟨rfl, hb⟩
      have HB7 := below_step HB6 hb
      clear x0 x1 x2 y0 y1 y2 hb
      go_wp2_with fail
      refine (num3_any d _).mono ?_
      rintro z w' ⟨rfl, rfl⟩
      go_wp2_with fail
      refine (hK _ (below_step HB4 HB7)).mono ?_
      rintro x w8 ⟨rfl, hb⟩
      go_wp2_with fail
      go_ret
      exact ⟨rfl, below_step (below_step HB4 HB7) hb⟩
    · have V2 : ∀ v, SmallV N' n' e' v → v = .bool false := fun v ⟨bl, hv, hb⟩ => by rw [hv]; cases bl; rfl; exact absurd (hb.1 rfl) h2
      have HV := Lib.hid (And.intro V1 V2)
      clear H H' h1 h2 hT hQ V1 V2
      go_enter Tryz.func15, Tryz.ntmps15
      go_wp2_with fail
      refine A1.mono ?_
      rintro x w' ⟨v, rfl, hv, rfl⟩
      obtain rfl := HV.out.1 v hv
      clear hv A1
      go_wp2_with fail
      refine A2.mono ?_
      rintro x w' ⟨v, rfl, hv, rfl⟩
      obtain rfl := HV.out.2 v hv
      clear hv A2
      go_wp2_with fail
      refine (hK _ (by repeat' (first | exact Below.refl _ _ | refine below_alloc ?_ _))).mono ?_
      rintro x w1 ⟨rfl, hb⟩
      go_wp2_with fail
      go_ret
      exact ⟨rfl, hb⟩
  · have V1 : ∀ v, SmallV N n e v → v = .bool false := fun v ⟨bl, hv, hb⟩ => by rw [hv]; cases bl; rfl; exact absurd (hb.1 rfl) h1
    have HV := Lib.hid V1
    clear H H' h1 hT hQ V1 A2
    go_enter Tryz.func15, Tryz.ntmps15
    go_wp2_with fail
    refine A1.mono ?_
    rintro x w' ⟨v, rfl, hv, rfl⟩
    obtain rfl := HV.out v hv
    clear hv A1
    go_wp2_with fail
    refine (hK _ (by repeat' (first | exact Below.refl _ _ | refine below_alloc ?_ _))).mono ?_
    rintro x w1 ⟨rfl, hb⟩
    go_wp2_with fail
    go_ret
    exact ⟨rfl, hb⟩
end Go.Proofs.YtjlaadadbpffdaaGreatDoor
