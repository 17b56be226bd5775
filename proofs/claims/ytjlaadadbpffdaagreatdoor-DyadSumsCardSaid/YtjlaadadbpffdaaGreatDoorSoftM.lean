/-
  The machine's product and sum, rounded once; all answers are words.
-/
import Derived.Test.YtjlaadadbpffdaaGreatDoorSoftL
import Derived.Test.YtjlaadadbpffdaaGreatDoorBitsE
set_option linter.unusedSimpArgs false
set_option linter.unusedVariables false
namespace Go.Plumb

theorem read_zeroW (s : Bool) : Ieee.double.read (wordN s 0) = .number s 0 (-1074) := by cases s <;> decide
theorem read_infW (s : Bool) : Ieee.double.read (wordN s 9218868437227405312) = .infinity s := by cases s <;> decide
theorem nrm_add0 (s : Bool) (i i' : Int) (d : Dy) : nrm (addD ⟨s, 0, i⟩ d) = nrm (addD ⟨s, 0, i'⟩ d) := by
  rw [← nrm_addD ⟨s, 0, i⟩, ← nrm_addD ⟨s, 0, i'⟩, nrm_zero (d := ⟨s, 0, i⟩) rfl, nrm_zero (d := ⟨s, 0, i'⟩) rfl]
theorem sum_zero (s : Bool) (i : Int) (d : Ieee.Datum) : ((Ieee.Datum.number s 0 i).sum d).map Ieee.double.write = ((Ieee.double.read (wordN s 0)).sum d).map Ieee.double.write := by
  rw [read_zeroW]
  cases d with
  | nan t f => rfl
  | infinity t => rfl
  | number t n j =>
    obtain ⟨d1, h1, w1⟩ := sum_number s t 0 n i j
    obtain ⟨d2, h2, w2⟩ := sum_number s t 0 n (-1074) j
    rw [h1, h2]
    show some _ = some _
    rw [w1, w2, nrm_add0 s i (-1074)]
theorem sum_inf (s : Bool) (d : Ieee.Datum) : ((Ieee.Datum.infinity s).sum d).map Ieee.double.write = ((Ieee.double.read (wordN s 9218868437227405312)).sum d).map Ieee.double.write := by rw [read_infW]
theorem sgn_lt (z : Nat) (s : Bool) (hz : z < 18446744073709551616) : sgnW z s < 18446744073709551616 := by
  unfold sgnW; split
  · unfold negI; split
    · decide
    · omega
  · exact hz
theorem wordN_lt' (s : Bool) (z : Nat) (h : z ≤ 9223372036854775807) : wordN s z < 18446744073709551616 := by unfold wordN; split <;> omega
theorem roundN_lt' (neg : Bool) (n : Nat) (e : Int) : roundN neg n e < 18446744073709551616 := by
  unfold roundN
  split
  · exact wordN_lt' _ _ (by omega)
  · exact wordN_lt' _ _ (by omega)
theorem addW_lt {x y : Nat} (h1 : x < 18446744073709551616) (h2 : y < 18446744073709551616) : addW x y < 18446744073709551616 := by
  unfold addW nanN
  split
  · decide
  · split
    · exact h1
    · split
      · exact h2
      · split
        · exact wordN_lt' _ _ (by omega)
        · exact roundN_lt' _ _ _
theorem prodT_lt {a b : Int} {z : Nat} (h : prodT a b = some z) : z < 18446744073709551616 := by
  unfold prodT nanN infN at h
  (repeat' split at h) <;> first | (cases h; decide) | cases h
theorem quoT_lt {a b : Int} {z : Nat} (h : quoT a b = some z) : z < 18446744073709551616 := by
  unfold quoT nanN infN at h
  (repeat' split at h) <;> first | (cases h; decide) | cases h
theorem toldP_lt {x y d : Nat} (hd : d < 18446744073709551616) : toldW prodT x y d < 18446744073709551616 := by
  unfold toldW
  split
  · decide
  · split
    · rename_i z h; exact sgn_lt _ _ (prodT_lt h)
    · exact hd
theorem toldQ_lt {x y d : Nat} (hd : d < 18446744073709551616) : toldW quoT x y d < 18446744073709551616 := by
  unfold toldW
  split
  · decide
  · split
    · rename_i z h; exact sgn_lt _ _ (quoT_lt h)
    · exact hd
theorem quoD_lt (x y : Dy) : quoD x y < 18446744073709551616 := by unfold quoD quoR; exact roundN_lt' _ _ _
theorem rootD_lt (x : Dy) : rootD x < 18446744073709551616 := by unfold rootD rootR; exact roundN_lt' _ _ _
theorem rndD_lt (x : Dy) : rndD x < 18446744073709551616 := by unfold rndD; exact roundN_lt' _ _ _
theorem mulW_lt (x y : Nat) : mulW x y < 18446744073709551616 := toldP_lt (rndD_lt _)
theorem divW_lt (x y : Nat) : divW x y < 18446744073709551616 := toldQ_lt (quoD_lt _ _)
theorem sqrtW_lt {x : Nat} (h1 : x < 18446744073709551616) : sqrtW x < 18446744073709551616 := by
  unfold sqrtW nanN
  split
  · exact h1
  · split
    · decide
    · split
      · exact h1
      · exact rootD_lt _
theorem fmaW_lt {x y z : Nat} (h3 : z < 18446744073709551616) : fmaW x y z < 18446744073709551616 := by
  unfold fmaW
  split
  · exact h3
  · split
    · exact addW_lt (toldP_lt (by decide)) h3
    · exact rndD_lt _
theorem add_nanN (x y : Nat) (h : clsI x = 3) : addW x y = nanN := by unfold addW; rw [if_pos (.inl h)]
theorem mach_fma {x y z : Nat} (h1 : x < 18446744073709551616) (h2 : y < 18446744073709551616) (h3 : z < 18446744073709551616) : Mach (Ieee.double.fma x y z) (fmaW x y z) := by
  unfold fmaW
  by_cases hxy : clsI x = 1 ∧ clsI y = 1
  · obtain ⟨cx, cy⟩ := hxy
    obtain ⟨e, _, _, hr, he⟩ := read_fin x (cls1 cx).1 h1
    obtain ⟨f, _, _, hs, hf⟩ := read_fin y (cls1 cy).1 h2
    have hp : Ieee.double.fma x y z = (((Ieee.Datum.number ((dyW x).s ^^ (dyW y).s) ((dyW x).m * (dyW y).m) (e + f)).sum (Ieee.double.read z)).map Ieee.double.write) := by
      unfold Ieee.Format.fma
      rw [hr, hs]; rfl
    rw [hp]
    by_cases hz : 1 < clsI z
    · rw [if_pos ⟨cx, cy, hz⟩]
      rcases cls_cases z with h | h | h | h
      · omega
      · omega
      · left
        rw [read_inf z (cls2 h) h3]
        show some (Ieee.double.write (.infinity (negW z))) = _
        rw [word_inf, inf_word z (cls2 h) h3]
      · right
        obtain ⟨s, t, hn⟩ := read_nan z (cls3 h) h3
        rw [hn]
        exact ⟨rfl, cls3 h⟩
    · rw [if_neg (fun h => hz h.2.2), if_neg (by rintro (h | h) <;> exact h (by assumption))]
      left
      have hzf : classI z ≤ 3 := by
        rcases cls_cases z with h | h | h | h
        · exact (cls0 h).1
        · exact (cls1 h).1
        · omega
        · omega
      obtain ⟨g, _, _, ht, hg⟩ := read_fin z hzf h3
      rw [ht]
      obtain ⟨d, hd, hw⟩ := sum_number ((dyW x).s ^^ (dyW y).s) (dyW z).s ((dyW x).m * (dyW y).m) (dyW z).m (e + f) g
      rw [hd]
      show some _ = some _
      rw [hw, if_neg (fun h => Nat.mul_ne_zero (cls1 cx).2 (cls1 cy).2 h.1), nrm_mulD, nrm_addD, ← nrm_addD, nrm_place hg, nrm_addD, he (cls1 cx).2, hf (cls1 cy).2]
      rfl
  · have hxy' : clsI x ≠ 1 ∨ clsI y ≠ 1 := by
      by_cases h : clsI x = 1
      · exact .inr (fun h' => hxy ⟨h, h'⟩)
      · exact .inl h
    rw [if_neg (fun h => hxy ⟨h.1, h.2.1⟩), if_pos hxy']
    -- what the product comes to
    have key : (∃ d, (Ieee.double.read x).product (Ieee.double.read y) = some d ∧ ∀ z, (d.sum (Ieee.double.read z)).map Ieee.double.write = Ieee.double.add (toldW prodT x y nanN) z) ∨ ((Ieee.double.read x).product (Ieee.double.read y) = none ∧ clsI (toldW prodT x y nanN) = 3) := by
      unfold toldW
      by_cases hn : clsI x = 3 ∨ clsI y = 3
      · rw [if_pos hn]
        right
        refine ⟨?_, by decide⟩
        rcases hn with h | h
        · obtain ⟨s, t, hr⟩ := read_nan x (cls3 h) h1
          rw [hr]; rfl
        · obtain ⟨s, t, hr⟩ := read_nan y (cls3 h) h2
          rw [hr]
          cases Ieee.double.read x <;> rfl
      · rw [if_neg hn]
        have a1 : clsI x ≠ 3 := fun h => hn (.inl h)
        have a2 : clsI y ≠ 3 := fun h => hn (.inr h)
        have hs : (negW x != negW y) = (negW x ^^ negW y) := rfl
        have zero : ∀ e f, (dyW x).m * (dyW y).m = 0 → classI x ≤ 3 → classI y ≤ 3 → Ieee.double.read x = .number (dyW x).s (dyW x).m e → Ieee.double.read y = .number (dyW y).s (dyW y).m f →
            ∃ d, (Ieee.double.read x).product (Ieee.double.read y) = some d ∧ ∀ z, (d.sum (Ieee.double.read z)).map Ieee.double.write = Ieee.double.add (sgnW 0 (negW x != negW y)) z := by
          intro e f h0 hx hy hr ht
          rw [hr, ht, mul_number, h0]
          refine ⟨_, rfl, fun z => ?_⟩
          rw [sum_zero, dyW_s x hx h1, dyW_s y hy h2, wordN_sgn0, hs]
          rfl
        have inf : ∀ s, (Ieee.double.read x).product (Ieee.double.read y) = some (.infinity s) → s = (negW x != negW y) →
            ∃ d, (Ieee.double.read x).product (Ieee.double.read y) = some d ∧ ∀ z, (d.sum (Ieee.double.read z)).map Ieee.double.write = Ieee.double.add (sgnW infN (negW x != negW y)) z := by
          intro s hp hse
          refine ⟨_, hp, fun z => ?_⟩
          rw [sum_inf, wordN_sgnI, hse]
          rfl
        rcases cls_cases x with hx | hx | hx | hx <;> rcases cls_cases y with hy | hy | hy | hy <;> first | exact absurd hx a1 | exact absurd hy a2 | skip
        · left
          rw [show prodT (clsI x) (clsI y) = some 0 by rw [hx, hy]; rfl]
          obtain ⟨e, _, _, hr, he⟩ := read_fin x (cls0 hx).1 h1
          obtain ⟨f, _, _, ht, hf⟩ := read_fin y (cls0 hy).1 h2
          exact zero e f (by rw [(cls0 hx).2, Nat.zero_mul]) (cls0 hx).1 (cls0 hy).1 hr ht
        · left
          rw [show prodT (clsI x) (clsI y) = some 0 by rw [hx, hy]; rfl]
          obtain ⟨e, _, _, hr, he⟩ := read_fin x (cls0 hx).1 h1
          obtain ⟨f, _, _, ht, hf⟩ := read_fin y (cls1 hy).1 h2
          exact zero e f (by rw [(cls0 hx).2, Nat.zero_mul]) (cls0 hx).1 (cls1 hy).1 hr ht
        · right
          rw [show prodT (clsI x) (clsI y) = some nanN by rw [hx, hy]; rfl]
          obtain ⟨e, _, _, hr, he⟩ := read_fin x (cls0 hx).1 h1
          refine ⟨?_, ?_⟩
          · rw [hr, read_inf y (cls2 hy) h2, (cls0 hx).2]; rfl
          · show clsI (sgnW nanN _) = 3
            rw [sgnW_nan]; decide
        · left
          rw [show prodT (clsI x) (clsI y) = some 0 by rw [hx, hy]; rfl]
          obtain ⟨e, _, _, hr, he⟩ := read_fin x (cls1 hx).1 h1
          obtain ⟨f, _, _, ht, hf⟩ := read_fin y (cls0 hy).1 h2
          exact zero e f (by rw [(cls0 hy).2, Nat.mul_zero]) (cls1 hx).1 (cls0 hy).1 hr ht
        · exact absurd ⟨hx, hy⟩ hxy
        · left
          rw [show prodT (clsI x) (clsI y) = some infN by rw [hx, hy]; rfl]
          obtain ⟨e, _, _, hr, he⟩ := read_fin x (cls1 hx).1 h1
          refine inf ((negW y) ^^ (dyW x).s) ?_ ?_
          · rw [hr, read_inf y (cls2 hy) h2]
            show (if (dyW x).m = 0 then none else _) = _
            rw [if_neg (cls1 hx).2]
          · rw [dyW_s x (cls1 hx).1 h1, Bool.xor_comm]; first | done | rfl
        · right
          rw [show prodT (clsI x) (clsI y) = some nanN by rw [hx, hy]; rfl]
          obtain ⟨e, _, _, hr, he⟩ := read_fin y (cls0 hy).1 h2
          refine ⟨?_, ?_⟩
          · rw [hr, read_inf x (cls2 hx) h1, (cls0 hy).2]; rfl
          · show clsI (sgnW nanN _) = 3
            rw [sgnW_nan]; decide
        · left
          rw [show prodT (clsI x) (clsI y) = some infN by rw [hx, hy]; rfl]
          obtain ⟨e, _, _, hr, he⟩ := read_fin y (cls1 hy).1 h2
          refine inf ((negW x) ^^ (dyW y).s) ?_ ?_
          · rw [hr, read_inf x (cls2 hx) h1]
            show (if (dyW y).m = 0 then none else _) = _
            rw [if_neg (cls1 hy).2]
          · rw [dyW_s y (cls1 hy).1 h2]; first | done | rfl
        · left
          rw [show prodT (clsI x) (clsI y) = some infN by rw [hx, hy]; rfl]
          refine inf ((negW x) ^^ (negW y)) ?_ rfl
          rw [read_inf x (cls2 hx) h1, read_inf y (cls2 hy) h2]; rfl
    rcases key with ⟨d, hd, hk⟩ | ⟨hd, hc⟩
    · have hf : Ieee.double.fma x y z = Ieee.double.add (toldW prodT x y nanN) z := by
        unfold Ieee.Format.fma
        rw [hd]
        exact hk z
      rw [hf]
      exact mach_add (toldP_lt (by decide)) h3
    · right
      refine ⟨?_, ?_⟩
      · unfold Ieee.Format.fma
        rw [hd]; rfl
      · rw [add_nanN _ _ hc]; exact nanN_class
end Go.Plumb
