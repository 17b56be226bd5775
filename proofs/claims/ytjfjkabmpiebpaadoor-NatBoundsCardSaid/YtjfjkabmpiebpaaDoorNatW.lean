/-
  The reference of layer 2: Sub.
-/
import Derived.Test.YtjfjkabmpiebpaaDoorNatV
set_option linter.unusedSimpArgs false
set_option linter.unusedVariables false
namespace Go.Plumb
theorem subH_step (la lb os : List Nat) (i bo x y s : Nat) (hos : os.length = i) (hv : valH os + valH (lb.take i) = valH (la.take i) + 4294967296 ^ i * bo) (hx : la.getD i 0 = x) (hy : lb.getD i 0 = y) (hs : s + y + bo = 4294967296 + x) (hsb : s < 8589934592) :
    valH (os ++ [s % 4294967296]) + valH (lb.take (i + 1)) = valH (la.take (i + 1)) + 4294967296 ^ (i + 1) * (1 - s / 4294967296) := by
  rw [valH_append, hos, valH_take_any la i, valH_take_any lb i, hx, hy, valH_one, Nat.pow_succ, Nat.mul_assoc]
  have e2 : s % 4294967296 + y + bo = x + 4294967296 * (1 - s / 4294967296) := by omega
  have e3 := congrArg (4294967296 ^ i * ·) e2
  simp only [Nat.mul_add] at e3 ⊢
  omega
theorem subH_end (la lb os : List Nat) (n bo A B : Nat) (hA : valH la = A) (hB : valH lb = B) (hla : la.length = n) (hla2 : Halves la) (hos : os.length = n) (hl : Halves os) (hle : B ≤ A) (hv : valH os + valH (lb.take n) = valH (la.take n) + 4294967296 ^ n * bo) : valH os = A - B := by
  have h1 := valH_lt hl
  rw [hos] at h1
  have h2 := valH_lt hla2
  rw [hla, hA] at h2
  rw [← hla, List.take_length, hla, hA] at hv
  have hB2 : valH (lb.take n) = B := by
    by_cases hn : n ≤ lb.length
    · have h3 := valH_split lb n hn
      rw [hB] at h3
      have : valH (lb.drop n) = 0 := by
        apply Nat.eq_zero_of_not_pos
        intro h0
        have := Nat.mul_le_mul_left (4294967296 ^ n) (show 1 ≤ valH (lb.drop n) from h0)
        omega
      rw [this] at h3
      simpa using h3.symm
    · rw [List.take_of_length_le (by omega), hB]
  rw [hB2] at hv
  have : bo = 0 := by
    apply Nat.eq_zero_of_not_pos
    intro h0
    have := Nat.mul_le_mul_left (4294967296 ^ n) (show 1 ≤ bo from h0)
    omega
  subst this
  omega
end Go.Plumb
namespace Go.Proofs.YtjfjkabmpiebpaaDoor
open Go.RowKit Go.Plumb

set_option maxHeartbeats 2000000 in
/-- The reference's Sub. -/
theorem rsub_any (a b : Option Addr) (c d : Nat) (l m : List Nat) (w : World) (hA : Arr w a c l) (hB : Arr w b d m) (hl : l.length ≤ 10000) (hm : m.length ≤ 10000) (hle : valL m ≤ valL l) :
    Calls Tryd.prog 23 #[.slice a l.length c, .slice b m.length d] w fun e w' => ∃ v, e = .returned v ∧ OwnL w' w.heap.size v (limbs (valL l - valL m)) ∧ Below w.heap.size w w' := by
  have HLE := Lib.hid hle
  clear hle
  obtain ⟨i0, hi, hz0, hz1, hz2⟩ := info_parts info_u64
  have hC1 := cut_any a c l w hA (by omega)
  have HB : Hid (∀ wr, Below w.heap.size w wr → Arr wr b d m) := Lib.hid fun wr h => hB.below h
  have HlimA := Lib.hid hA.2.2.1
  have HlimB := Lib.hid hB.2.2.1
  obtain ⟨xs, hxs⟩ : ∃ xs, cutH l = xs := ⟨_, rfl⟩
  obtain ⟨ys, hys⟩ : ∃ ys, cutH m = ys := ⟨_, rfl⟩
  rw [hxs] at hC1
  obtain ⟨nx, hnx⟩ : ∃ n, xs.length = n := ⟨_, rfl⟩
  obtain ⟨ny, hny⟩ : ∃ n, ys.length = n := ⟨_, rfl⟩
  have HXS : Hid (valH xs = valL l ∧ Halves xs ∧ xs.length = nx) := Lib.hid ⟨by rw [← hxs, valH_cut], by rw [← hxs]; exact cutH_halves hA.2.2.1, hnx⟩
  have HYS : Hid (valH ys = valL m ∧ Halves ys ∧ ys.length = ny) := Lib.hid ⟨by rw [← hys, valH_cut], by rw [← hys]; exact cutH_halves hB.2.2.1, hny⟩
  have hxb : nx ≤ 20000 := by rw [← hnx, ← hxs, cutH_length]; omega
  have hyb : ny ≤ 20000 := by rw [← hny, ← hys, cutH_length]; omega
  have Hys := Lib.hid hys
  have Hm := Lib.hid hm
  obtain ⟨M, hM⟩ : ∃ n, m.length = n := ⟨_, rfl⟩
  have HM := Lib.hid hM
  rw [hM]
  clear hA hB hxs hys hnx hny hM hm
  go_enter Tryd.func23, Tryd.ntmps23
  go_wp2_with fail
  refine hC1.mono ?_
  rintro e w1 ⟨v1, rfl, ho1, hb1⟩
  have hC2 := cut_any b d m w1 (HB.out w1 hb1) (by have := Hm.out; omega)
  rw [Hys.out, HM.out] at hC2
  obtain ⟨a1, c1, rfl⟩ := OwnL.shape ho1
  have HA1 := Lib.hid (OwnL.arr' ho1 (halves_limbs HXS.out.2.1))
  have HB1 := Lib.hid hb1
  rw [HXS.out.2.2]
  clear hC1 ho1 hb1
  go_wp2_with fail
  refine hC2.mono ?_
  rintro e w2 ⟨v2, rfl, ho2, hb2⟩
  obtain ⟨b1, d1, rfl⟩ := OwnL.shape ho2
  have HX : Hid (∀ wr, Below w2.heap.size w2 wr → Arr wr a1 c1 xs) := Lib.hid fun wr h => (HA1.out.below hb2).below h
  have HY : Hid (∀ wr, Below w2.heap.size w2 wr → Arr wr b1 d1 ys) := Lib.hid fun wr h => (OwnL.arr' ho2 (halves_limbs HYS.out.2.1)).below h
  have HBW := Lib.hid (below_step HB1.out hb2)
  rw [HYS.out.2.2]
  clear hC2 ho2 hb2
  go_wp2_with fail
  go_loopw [7, 8, 9] (fun u cv v wr => ∃ (i : Nat) (os : List Nat) (bo : Nat) (q : Value), Hid (i ≤ nx) ∧ v = .int .i64 (i : Int) ∧ cv = .int .u64 (bo : Int) ∧ q = u ∧ Hid (os.length = i ∧ Halves os ∧ bo ≤ 1 ∧ valH os + valH (ys.take i) = valH (xs.take i) + 4294967296 ^ i * bo) ∧ Hid (OwnL wr w2.heap.size q os) ∧ Hid (Below w2.heap.size w2 wr)) (fun _ _ v _ => nx - (intOf v).toNat)
  case atStart => exact ⟨0, [], 0, _, Lib.hid (Nat.zero_le _), rfl, rfl, rfl, Lib.hid ⟨rfl, halves_nil, Nat.zero_le _, by simp [valH]⟩, Lib.hid (World.ownsRow_nil _ _ _ _), Lib.hid (Below.refl _ _)⟩
  case round =>
    obtain ⟨i, os, bo, u, Hi, rfl, rfl, rfl, hR, hown, hB⟩ := hrel
    by_cases h1 : (i : Int) < (nx : Int)
    · have hdy := fun k => digit_any b1 d1 i ys (wr.drewN k) (HY.out _ (below_drewN hB.out k)) (by have := Hi.out; omega)
      simp only [HYS.out.2.2] at hdy
      obtain ⟨q1, o1, ea, hc1⟩ := (HX.out wr hB.out).2.2.2 i (by rw [HXS.out.2.2]; omega)
      subst ea
      obtain ⟨x, hx⟩ : ∃ x, xs.getD i 0 = x := ⟨_, rfl⟩
      obtain ⟨y, hy⟩ : ∃ y, ys.getD i 0 = y := ⟨_, rfl⟩
      have hxl : x < 4294967296 := by rw [← hx]; exact halves_get HXS.out.2.1 i
      have hyl : y < 4294967296 := by rw [← hy]; exact halves_get HYS.out.2.1 i
      rw [hx] at hc1
      simp only [hy] at hdy
      have hbo1 := hR.out.2.2.1
      obtain ⟨S, hS⟩ : ∃ S, 4294967296 + x - y - bo = S := ⟨_, rfl⟩
      have t0 : (4294967296 : Int) + (x : Int) - (y : Int) - (bo : Int) = (S : Int) := by omega
      obtain ⟨sl, hsl⟩ : ∃ z, S % 4294967296 = z := ⟨_, rfl⟩
      obtain ⟨sh, hsh⟩ : ∃ z, 1 - S / 4294967296 = z := ⟨_, rfl⟩
      have t1 : (S : Int) % 4294967296 = (sl : Int) := by omega
      have t2 : (1 : Int) - (S : Int) / 4294967296 = (sh : Int) := by omega
      have HS : Hid (valH (os ++ [sl]) + valH (ys.take (i + 1)) = valH (xs.take (i + 1)) + 4294967296 ^ (i + 1) * sh ∧ Halves (os ++ [sl]) ∧ sh ≤ 1) := Lib.hid ⟨by rw [← hsl, ← hsh]; exact subH_step xs ys os i bo x y S hR.out.1 hR.out.2.2.2 hx hy (by omega) (by omega), hR.out.2.1.snoc (by omega), by omega⟩
      have HLn : Hid (os.length = i ∧ i ≤ 20000) := Lib.hid ⟨hR.out.1, by have := Hi.out; omega⟩
      have hsz : w2.heap.size ≤ wr.heap.size := hB.out.size
      have hboi : (bo : Int) ≤ 1 := by omega
      have hxi : (x : Int) < 4294967296 := by omega
      have hyi : (y : Int) < 4294967296 := by omega
      have hSi : (S : Int) < 8589934592 := by omega
      have z1 : (0 : Int) ≤ (i : Int) := by omega
      clear hx hy hS hsl hsh hbo1 hxl hyl
      go_wp2_with fail
      go_quiet ((go_at_call 54; exact quiet_eq (hdy _)))
      have hownx := Lib.hid (OwnL.later hown.out (below_drewN (Below.refl _ _) nq))
      have hBx := Lib.hid (below_drewN hB.out nq)
      clear hown hB hsz hc1 hdy
      generalize wr.drewN nq = wx at *
      have hown := hownx
      have hB := hBx
      clear hownx hBx
      have hsz : w2.heap.size ≤ wx.heap.size := hB.out.size
      go_wp2_with (at_builtin; refine wpList_append_own _ rfl _ _ 22 rfl w2.heap.size 36 i0 (.int .u64 0) 1 8 Tryd.underlying22 hi hz0 hz1 hz2 rfl (by decide) u os.length (os.map limbV) rfl (World.ownsRow.alloc hown.out _) ⟨wx.heap.size, 0, none⟩ 1 1 [limbV sl] rfl rfl (one_cell _ _ _) (one_one _) (by have := HLn.out; unfold maxLen; omega) (by have := HLn.out; omega) (by simp; omega) ?_; intro v' w9 hown9 hgrow9 _)
      go_roundw
      case rel => exact ⟨i + 1, os ++ [sl], sh, _, Lib.hid (by omega), by go_num, rfl, rfl, Lib.hid ⟨by rw [List.length_append, hR.out.1]; rfl, HS.out.2.1, HS.out.2.2, HS.out.1⟩, Lib.hid (own_snoc hown9), Lib.hid (below_snoc hB.out hown.out hgrow9)⟩
      case measure => simp [intOf]; omega
    · obtain ⟨a9, c9, e9⟩ := OwnL.shape hown.out
      subst e9
      have hin : i = nx := by have := Hi.out; omega
      have hvv := subH_end xs ys os nx bo _ _ HXS.out.1 HYS.out.1 HXS.out.2.2 HXS.out.2.1 (by rw [hR.out.1, hin]) hR.out.2.1 HLE.out (by rw [← hin]; exact hR.out.2.2.2)
      have hJ := join_any a9 c9 _ wr (OwnL.arr' hown.out (halves_limbs hR.out.2.1)) hR.out.2.1 (by rw [hR.out.1, hin]; omega)
      rw [hvv] at hJ
      have HB9 := Lib.hid (below_step HBW.out hB.out)
      obtain ⟨J, hJe⟩ : ∃ J, os.length = J := ⟨_, rfl⟩
      rw [hJe] at hJ ⊢
      clear hJe hin hvv hown
      go_wp2_with fail
      refine hJ.mono ?_
      rintro e w10 ⟨v, rfl, ho, hb⟩
      have HO := Lib.hid (OwnL.weaken ho HB9.out.size)
      have HB10 := Lib.hid (below_step HB9.out hb)
      clear hJ ho hb
      go_wp2_with fail
      go_ret
      exact ⟨v, rfl, HO.out, HB10.out⟩
end Go.Proofs.YtjfjkabmpiebpaaDoor
