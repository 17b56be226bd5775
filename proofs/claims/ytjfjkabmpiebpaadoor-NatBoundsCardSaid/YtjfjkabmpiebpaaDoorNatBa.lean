/-
  The reference of layer 2: Text.
-/
import Derived.Test.YtjfjkabmpiebpaaDoorNatBy
set_option linter.unusedSimpArgs false
set_option linter.unusedVariables false
namespace Go.Proofs.YtjfjkabmpiebpaaDoor
open Go.RowKit Go.Plumb

theorem rev_facts (N i j M : Nat) (hN : (N : Int) ≤ 20000) (hM : N / 2 = M) (hj : N - 1 - i = j) (hi : i < M) :
    IntKind.i64.wrap ((N : Int) - 1) = (N : Int) - 1 ∧ IntKind.i64.wrap (j : Int) = (j : Int) ∧ (N : Int) - 1 - (i : Int) = (j : Int) ∧ j < N ∧ i < N ∧ wrap64 ((i : Int) + 1) = ((i + 1 : Nat) : Int) ∧ i + 1 ≤ N / 2 ∧ N - (((i + 1 : Nat) : Int)).toNat < N - ((i : Int)).toNat :=
  ⟨IntWalk.i64_in _ ⟨by omega, by omega⟩, IntWalk.i64_in _ ⟨by omega, by omega⟩, by omega, by omega, by omega, (IntWalk.wrap64_in _ ⟨by omega, by omega⟩).trans (by omega), by omega, by omega⟩

set_option maxRecDepth 20000 in
set_option maxHeartbeats 1000000 in
theorem rtext_any (a : Option Addr) (c : Nat) (l : List Nat) (w : World) (hA : Arr w a c l) (hl : l.length ≤ 1000) :
    Calls Tryd.prog 34 #[.slice a l.length c] w fun e w' => e = .returned (.string ⟨(textN (valL l)).toArray⟩) ∧ Below w.heap.size w w' := by
  obtain ⟨i0, hi, hz0, hz1, hz2⟩ := info_parts info_u8
  have hC := rnorm_any a c l w hA (by omega)
  obtain ⟨V, hV⟩ : ∃ V, valL l = V := ⟨_, rfl⟩
  have Hd : Hid ((digs V).length ≤ 20000) := Lib.hid (by rw [← hV]; have := digs_valL hA.2.2.1; omega)
  have Hll : Hid (V < 18446744073709551616 ^ l.length ∧ l.length ≤ 1000) := Lib.hid ⟨by rw [← hV]; exact valL_lt hA.2.2.1, hl⟩
  rw [hV] at hC ⊢
  obtain ⟨nn, hnn⟩ : ∃ n, l.length = n := ⟨_, rfl⟩
  rw [hnn] at hC Hll ⊢
  obtain ⟨T, hT⟩ : ∃ T, textN V = T := ⟨_, rfl⟩
  have HT := Lib.hid hT
  rw [hT]
  clear hnn hA hV hT hl
  go_enter Tryd.func34, Tryd.ntmps34
  go_wp2_with fail
  refine hC.mono ?_
  rintro e w1 ⟨u, rfl, ho, hb⟩
  obtain ⟨ua, uc, rfl⟩ := OwnL.shape ho
  have HA1 := Lib.hid (OwnL.arr' ho (limbs_limbs V))
  have HB1 := Lib.hid hb
  clear hC ho hb
  by_cases h0 : V = 0
  · subst h0
    rw [limbs_zero]
    go_wp2_with fail
    go_ret
    refine ⟨?_, HB1.out⟩
    rw [← HT.out]; rfl
  · have hne : (limbs V).length ≠ 0 := by
      intro h
      have := congrArg valL (List.eq_nil_of_length_eq_zero h)
      rw [valL_limbs] at this
      exact h0 this
    obtain ⟨n, hn⟩ : ∃ n, (limbs V).length = n := ⟨_, rfl⟩
    rw [hn] at hne ⊢
    have Hn := Lib.hid hn
    have H0 := Lib.hid h0
    have hnb : ((n : Int) == 0) = false := by simp; omega
    clear hn hne h0
    go_wp2_with fail
    go_loopg [0, 3] V (fun g u v wr => ∃ (xa : Option Addr) (xc xn : Nat) (bs : List UInt8), u = .slice xa xn xc ∧ Hid (xn = (limbs g).length ∧ Arr wr xa xc (limbs g)) ∧ Hid (bs ++ digs g = digs V ∧ g ≤ V) ∧ Hid (OwnB wr w.heap.size v bs) ∧ Hid (Below w.heap.size w wr))
    case atStart => exact ⟨ua, uc, n, [], rfl, Lib.hid ⟨Hn.out.symm, HA1.out⟩, Lib.hid ⟨rfl, Nat.le_refl _⟩, Lib.hid (World.ownsRow_nil _ _ _ _), HB1⟩
    case round =>
      obtain ⟨xa, xc, xn, bs, rfl, hX, hD, hown, hB⟩ := hrel
      by_cases hg : gk = 0
      · have hx0 : xn = 0 := by rw [hX.out.1, hg, limbs_zero]; rfl
        subst hx0
        have hbs : bs = digs V := by have := hD.out.1; rw [hg, digs_zero, List.append_nil] at this; exact this
        subst hbs
        obtain ⟨bs, hbs⟩ : ∃ bs, digs V = bs := ⟨_, rfl⟩
        rw [hbs] at hown
        have Hbs := Lib.hid hbs
        have hbl : bs.length ≤ 20000 := by rw [← hbs]; exact Hd.out
        have hb0 : 0 < bs.length := by rw [← hbs, digs_pos H0.out]; simp
        obtain ⟨g, cap, e, hgB, hgl, hcap, hcn⟩ := OwnB.pos hown.out hb0
        subst e
        obtain ⟨N, hN⟩ : ∃ N, bs.length = N := ⟨_, rfl⟩
        have HN := Lib.hid hN
        have hNb : (N : Int) ≤ 20000 := by omega
        have HgB := Lib.hid hgB
        rw [hN] at hown ⊢
        have HNb := Lib.hid hNb
        clear hNb hg hbs hbl hb0 hgB hgl hcap hcn hN hX hD
        go_wp2_with fail
        go_loopw [6] (fun v wr => ∃ (i : Nat) (cs : List UInt8), Hid (i ≤ N / 2) ∧ v = .int .i64 (i : Int) ∧ Hid (turnedAt bs cs i) ∧ Hid (OwnB wr w.heap.size (.slice (some ⟨g, 0, none⟩) N cap) cs) ∧ Hid (Below w.heap.size w wr)) (fun v _ => N - (intOf v).toNat)
        case atStart => exact ⟨0, bs, Lib.hid (Nat.zero_le _), rfl, Lib.hid (turned_start bs), hown, hB⟩
        case round =>
          obtain ⟨i, cs, Hi, rfl, hR, hownc, hBc⟩ := hrel
          have hNb := HNb.out
          obtain ⟨M, hM⟩ : ∃ M, N / 2 = M := ⟨_, rfl⟩
          have fM : (N : Int) / 2 = (M : Int) := by omega
          have fM2 : (N : Int).tdiv 2 = (M : Int) := by rw [Int.tdiv_eq_ediv_of_nonneg (by omega)]; omega
          have fw : wrap64 (M : Int) = (M : Int) := IntWalk.wrap64_in _ ⟨by omega, by omega⟩
          have HMe := Lib.hid hM
          by_cases hi2 : i < M
          · obtain ⟨j, hj⟩ : ∃ j, N - 1 - i = j := ⟨_, rfl⟩
            have hcl : cs.length = N := by rw [hR.out.1, HN.out]
            have hci : cs[i]? = some (cs.getD i 0) := by rw [List.getElem?_eq_getElem (by omega)]; simp [List.getD, show i < cs.length by omega]
            have hcj : cs[j]? = some (cs.getD j 0) := by rw [List.getElem?_eq_getElem (by omega)]; simp [List.getD, show j < cs.length by omega]
            obtain ⟨x, hx⟩ : ∃ x, cs.getD i 0 = x := ⟨_, rfl⟩
            obtain ⟨y, hy⟩ : ∃ y, cs.getD j 0 = y := ⟨_, rfl⟩
            rw [hx] at hci
            rw [hy] at hcj
            obtain ⟨X, hX⟩ : ∃ X : Int, ((x.toNat : Nat) : Int) = X := ⟨_, rfl⟩
            obtain ⟨Y, hY⟩ : ∃ Y : Int, ((y.toNat : Nat) : Int) = Y := ⟨_, rfl⟩
            have vX : Value.int .u8 X = byteV x := by rw [← hX]; rfl
            have vY : Value.int .u8 Y = byteV y := by rw [← hY]; rfl
            have hc1 : wr.cell? ⟨g, i, none⟩ = some (.int .u8 X) := by rw [vX]; exact OwnB.cell hownc.out i x hci
            have hc2 : wr.cell? ⟨g, j, none⟩ = some (.int .u8 Y) := by rw [vY]; exact OwnB.cell hownc.out j y hcj
            have hf1 := OwnB.thaw hownc.out i
            have hf2 := OwnB.thaw hownc.out j
            obtain ⟨f1, f2, fj, gj, gi, f3, f4, f5⟩ := rev_facts N i j M hNb hM hj hi2
            have HF := Lib.hid (And.intro f3 (And.intro f4 f5))
            clear f3 f4 f5
            have hst := turned_step hR.out (by rw [HN.out, hM]; exact hi2)
            rw [HN.out, hj, hx, hy] at hst
            have HST := Lib.hid hst
            have HO2 := Lib.hid (OwnB.store (OwnB.store (show OwnB wr.drew _ _ _ from World.ownsRow.drew hownc.out) i y _ vY) j x _ vX)
            have HB2 := Lib.hid ((hBc.out.drew.setCell (p := ⟨g, i, none⟩) HgB.out (.int .u8 Y)).setCell (p := ⟨g, j, none⟩) HgB.out (.int .u8 X))
            have ft : i < M := hi2
            clear hNb hM hi2 hj hcl hci hcj hx hy hst hX hY vX vY
            go_wp2_with fail
            go_region
            go_wp2_with fail
            go_roundw
            case rel => exact ⟨i + 1, _, Lib.hid HF.out.2.1, by rw [HF.out.1], HST, HO2, HB2⟩
            case measure => rw [HF.out.1]; exact HF.out.2.2
          · have hall := turned_end hR.out (by rw [HN.out, hM]; have := Hi.out; omega)
            subst hall
            have hconv := OwnB.text hownc.out
            have fi : ¬ i < M := hi2
            have HBc := Lib.hid hBc.out
            clear hM hi2 hR hownc hBc hNb

            go_wp2_with fail
            go_ret
            refine ⟨?_, HBc.out⟩
            rw [← HT.out]
            unfold textN
            rw [if_neg H0.out, ← Hbs.out]
            rfl
      · have hxp : 0 < xn := by
          rw [hX.out.1]
          apply Nat.pos_of_ne_zero
          intro h
          have := congrArg valL (List.eq_nil_of_length_eq_zero h)
          rw [valL_limbs] at this
          exact hg this
        have hL := less10_any xa xc (limbs gk) wr hX.out.2 (by have := length_limbs_le gk nn (Nat.lt_of_le_of_lt hD.out.2 Hll.out.1); have := Hll.out.2; omega)
        rw [valL_limbs, ← hX.out.1] at hL
        obtain ⟨r, hr⟩ : ∃ r, gk % 10 = r := ⟨_, rfl⟩
        obtain ⟨q, hq⟩ : ∃ q, gk / 10 = q := ⟨_, rfl⟩
        rw [hr, hq] at hL
        have HQ : Hid (gk % 10 = r ∧ gk / 10 = q ∧ gk ≠ 0) := Lib.hid ⟨hr, hq, hg⟩
        have hrl : (r : Int) < 10 := by omega
        have hlb : 0 < xn := hxp
        have HBs : Hid (bs.length ≤ 20000) := Lib.hid (by have := congrArg List.length hD.out.1; rw [List.length_append] at this; have := Hd.out; omega)
        clear hg hxp hr hq
        go_wp2_with fail
        refine hL.mono ?_
        rintro e w2 ⟨v, rfl, ho, hb⟩
        have hownb := hown.out.later hb
        have HB2 := Lib.hid (below_step hB.out hb)
        have hsz := HB2.out.size
        obtain ⟨qa, qc, rfl⟩ := OwnL.shape ho
        have HOQ := Lib.hid ho
        have hlq := fun k hk => (World.ownsRow.lt (show wr.ownsRow w.heap.size 5 1 u3 bs.length (bs.map byteV) from hown.out) k hk).2
        have Hlq := Lib.hid hlq
        obtain ⟨qn, hqn⟩ : ∃ n, (limbs q).length = n := ⟨_, rfl⟩
        rw [hqn] at HOQ ⊢
        have HQn := Lib.hid hqn
        clear hL ho hb hqn hlq
        have t1 : IntKind.u8.wrap (48 + (r : Int)) = 48 + (r : Int) := by rw [IntKind.wrap_u8]; omega
        go_wp2_with (at_builtin; refine wpList_append_own _ rfl _ _ 71 rfl w.heap.size 5 i0 (.int .u8 0) 1 1 Tryd.underlying71 hi hz0 hz1 hz2 rfl (by decide) _ bs.length (bs.map byteV) rfl (World.ownsRow.alloc hownb _) ⟨w2.heap.size, 0, none⟩ 1 1 [.int .u8 (48 + (r : Int))] rfl rfl ?c1 ?c2 ?c3 ?c4 ?c5 ?_)
        case c1 => exact cell_one_new _ _ _
        case c2 => intro u hu; simp at hu; subst hu; rfl
        case c3 => have := HBs.out; unfold maxLen; omega
        case c4 => have := HBs.out; omega
        case c5 => have := hownb; simp; omega
        · intro v' w3 hown' hgrow _
          rw [← byteV_digB (r := r) (by omega)] at hown'
          have HO := Lib.hid (ownB_snoc hown')
          have HG := Lib.hid (belowB_snoc HB2.out hownb hgrow)
          have HAQ2 : Hid (Arr w3 qa qc (limbs q)) := Lib.hid (OwnL.arr' (World.ownsRow.kept (World.ownsRow.alloc HOQ.out _) hgrow (by
            cases hk : (Value.slice qa qn qc).ownBlock with
            | none => exact .inl rfl
            | some k =>
              refine .inr (fun e => ?_)
              have h1 := (World.ownsRow.lt (show w2.ownsRow wr.heap.size 36 1 (.slice qa qn qc) (limbs q).length ((limbs q).map limbV) from HOQ.out) k hk).1
              have h2 := Hlq.out k e.symm
              omega)) (limbs_limbs q))
          clear hown' hgrow hownb
          go_wp2_with fail
          go_roundg q
          case rel => exact ⟨qa, qc, qn, bs ++ [digB r], rfl, Lib.hid ⟨HQn.out.symm, HAQ2.out⟩, Lib.hid ⟨by rw [List.append_assoc, ← hD.out.1, digs_pos HQ.out.2.2, HQ.out.1, HQ.out.2.1]; rfl, by have := hD.out.2; have := HQ.out; omega⟩, HO, HG⟩
          case measure => have := HQ.out; omega
end Go.Proofs.YtjfjkabmpiebpaaDoor
