/-
  The reference of layer 2: Mul.
-/
import Derived.Test.YtjfjkabmpiebpaaDoorNatW
set_option linter.unusedSimpArgs false
set_option linter.unusedVariables false
namespace Go.Plumb
theorem patchH_value (u : List Nat) (j : Nat) (r : List Nat) (h : j + r.length ≤ u.length) : valH (patch u j r) + 4294967296 ^ j * valH ((u.drop j).take r.length) = valH u + 4294967296 ^ j * valH r := by
  have h1 := valH_split u j (by omega)
  have h2 := valH_split (u.drop j) r.length (by simp; omega)
  rw [List.drop_drop] at h2
  have h3 : valH (patch u j r) = valH (u.take j) + 4294967296 ^ j * (valH r + 4294967296 ^ r.length * valH (u.drop (j + r.length))) := by
    unfold patch
    rw [List.append_assoc, valH_append, valH_append, List.length_take, Nat.min_eq_left (by omega)]
  rw [h3, h1, h2, Nat.mul_add, Nat.mul_add]
  omega
theorem mulsH_step (la lo os : List Nat) (n i cy x o S : Nat) (hos : os.length = i) (hv : valH os + 4294967296 ^ i * cy = valH (lo.take i) + valH (la.take i) * n) (hx : la.getD i 0 = x) (hy : lo.getD i 0 = o)
    (h : S = o + n * x + cy) : valH (os ++ [S % 4294967296]) + 4294967296 ^ (i + 1) * (S / 4294967296) = valH (lo.take (i + 1)) + valH (la.take (i + 1)) * n := by
  rw [valH_append, hos, valH_take_any la i, valH_take_any lo i, hx, hy, valH_one, Nat.pow_succ, Nat.mul_assoc, Nat.add_mul, Nat.mul_assoc _ x n, Nat.mul_comm x n]
  have e0 : S % 4294967296 + 4294967296 * (S / 4294967296) = o + n * x + cy := by rw [← h]; omega
  have e3 := congrArg (4294967296 ^ i * ·) e0
  simp only [Nat.mul_add] at e3 ⊢
  omega
theorem mulsH_round (la lb lo os : List Nat) (k n1 n2 cy y : Nat) (h1 : la.length = n1) (hlo : lo.length = n2 + n1 + 1) (hk : k < n2) (hz : ∀ j, k + n1 ≤ j → lo.getD j 0 = 0) (hv : valH lo = valH (lb.take k) * valH la) (hos : os.length = n1)
    (he : valH os + 4294967296 ^ n1 * cy = valH ((lo.drop k).take n1) + valH la * y) (hy : lb.getD k 0 = y) :
    valH ((patch lo k os).set (k + n1) cy) = valH (lb.take (k + 1)) * valH la ∧ (∀ j, k + 1 + n1 ≤ j → ((patch lo k os).set (k + n1) cy).getD j 0 = 0) ∧ ((patch lo k os).set (k + n1) cy).length = n2 + n1 + 1 := by
  have hpl : (patch lo k os).length = n2 + n1 + 1 := by rw [patch_length _ _ _ (by omega)]; exact hlo
  refine ⟨?_, fun j hj => ?_, by rw [List.length_set]; exact hpl⟩
  · have s1 := valH_set (patch lo k os) (k + n1) cy (by omega)
    have s2 := patchH_value lo k os (by omega)
    rw [getD_patch lo os k (k + n1) (by omega) (by omega), hz (k + n1) (Nat.le_refl _), Nat.mul_zero, Nat.add_zero] at s1
    rw [hos] at s2
    rw [valH_take_any lb k, hy, Nat.add_mul, ← hv, s1, Nat.pow_add, Nat.mul_assoc, Nat.mul_assoc]
    have e3 := congrArg (4294967296 ^ k * ·) he
    simp only [Nat.mul_add] at e3
    rw [Nat.mul_comm y]
    omega
  · unfold List.getD
    rw [List.getElem?_set_ne (by omega)]
    have := getD_patch lo os k j (by omega) (by omega)
    unfold List.getD at this
    rw [this]
    exact hz j (by omega)
theorem patch_halves {u r : List Nat} (h : Halves u) (h' : Halves r) (j : Nat) : Halves (patch u j r) := by
  intro x hx
  unfold patch at hx
  rcases List.mem_append.1 hx with hx | hx
  · rcases List.mem_append.1 hx with hx | hx
    · exact h x (List.mem_of_mem_take hx)
    · exact h' x hx
  · exact h x (List.mem_of_mem_drop hx)
theorem halves_zeros (n : Nat) : Halves (List.replicate n 0) := by
  intro y hy
  rw [(List.mem_replicate.1 hy).2]; decide
theorem Halves.set {l : List Nat} (h : Halves l) (k x : Nat) (hx : x < 4294967296) : Halves (l.set k x) := by
  intro y hy
  rcases List.mem_or_eq_of_mem_set hy with hy | rfl
  · exact h y hy
  · exact hx
end Go.Plumb
namespace Go.Proofs.YtjfjkabmpiebpaaDoor
open Go.RowKit Go.Plumb

set_option maxHeartbeats 2000000 in
/-- The reference's Mul. -/
theorem rmul_any (a b : Option Addr) (c d : Nat) (l m : List Nat) (w : World) (hA : Arr w a c l) (hB : Arr w b d m) (hl : l.length ≤ 10000) (hm : m.length ≤ 10000) :
    Calls Tryd.prog 25 #[.slice a l.length c, .slice b m.length d] w fun e w' => ∃ v, e = .returned v ∧ OwnL w' w.heap.size v (limbs (valL l * valL m)) ∧ Below w.heap.size w w' := by
  obtain ⟨i0, hi, hz0, hz1, hz2⟩ := info_parts info_u64
  have hC1 := cut_any a c l w hA (by omega)
  have HB : Hid (∀ wr, Below w.heap.size w wr → Arr wr b d m) := Lib.hid fun wr h => hB.below h
  have HlimA := Lib.hid hA.2.2.1
  have HlimB := Lib.hid hB.2.2.1
  obtain ⟨xs, hxs⟩ : ∃ xs, cutH l = xs := ⟨_, rfl⟩
  obtain ⟨ys, hys⟩ : ∃ ys, cutH m = ys := ⟨_, rfl⟩
  rw [hxs] at hC1
  obtain ⟨nx, hnx⟩ : ∃ n, xs.length = n := ⟨_, rfl⟩
  obtain ⟨ny, hny⟩ : ∃ n, ys.length = n := ⟨_, rfl⟩
  have HXS : Hid (valH xs = valL l ∧ Halves xs ∧ xs.length = nx) := Lib.hid ⟨by rw [← hxs, valH_cut], by rw [← hxs]; exact cutH_halves hA.2.2.1, hnx⟩
  have HYS : Hid (valH ys = valL m ∧ Halves ys ∧ ys.length = ny) := Lib.hid ⟨by rw [← hys, valH_cut], by rw [← hys]; exact cutH_halves hB.2.2.1, hny⟩
  have hxb : nx ≤ 20000 := by rw [← hnx, ← hxs, cutH_length]; omega
  have hyb : ny ≤ 20000 := by rw [← hny, ← hys, cutH_length]; omega
  have Hys := Lib.hid hys
  have Hm := Lib.hid hm
  obtain ⟨M, hM⟩ : ∃ n, m.length = n := ⟨_, rfl⟩
  have HM := Lib.hid hM
  rw [hM]
  clear hA hB hxs hys hnx hny hM hm
  go_enter Tryd.func25, Tryd.ntmps25
  go_wp2_with fail
  refine hC1.mono ?_
  rintro e w1 ⟨v1, rfl, ho1, hb1⟩
  have hC2 := cut_any b d m w1 (HB.out w1 hb1) (by have := Hm.out; omega)
  rw [Hys.out, HM.out] at hC2
  obtain ⟨a1, c1, rfl⟩ := OwnL.shape ho1
  have HA1 := Lib.hid (OwnL.arr' ho1 (halves_limbs HXS.out.2.1))
  have HB1 := Lib.hid hb1
  rw [HXS.out.2.2]
  clear hC1 ho1 hb1
  go_wp2_with fail
  refine hC2.mono ?_
  rintro e w2 ⟨v2, rfl, ho2, hb2⟩
  obtain ⟨b1, d1, rfl⟩ := OwnL.shape ho2
  have HX : Hid (∀ wr, Below w2.heap.size w2 wr → Arr wr a1 c1 xs) := Lib.hid fun wr h => (HA1.out.below hb2).below h
  have HY : Hid (∀ wr, Below w2.heap.size w2 wr → Arr wr b1 d1 ys) := Lib.hid fun wr h => (OwnL.arr' ho2 (halves_limbs HYS.out.2.1)).below h
  have HBW := Lib.hid (below_step HB1.out hb2)
  rw [HYS.out.2.2]
  clear hC2 ho2 hb2
  have hmk : ∀ w, Sem.run Tryd.prog ((Instr.makeSlice 22 (.int .i64 ((nx : Int) + ny + 1)) (.int .i64 ((nx : Int) + ny + 1)))) w = .ok (.slice (some ⟨w.heap.size, 0, none⟩) (nx + ny + 1) (nx + ny + 1)) (w.alloc (.cells (zerosA (nx + ny + 1)) 36)) := fun w => by
    have := run_makeI ((nx : Int) + ny + 1) (by omega) (by omega) w
    rwa [show ((nx : Int) + ny + 1).toNat = nx + ny + 1 by omega] at this
  go_wp2_with fail
  go_loopw [8] (fun v wr => ∃ (i : Nat) (lo : List Nat), Hid (i ≤ nx) ∧ v = .int .i64 (i : Int) ∧ Hid (lo.length = nx + ny + 1 ∧ Halves lo ∧ valH lo = valH (xs.take i) * valH ys ∧ ∀ j, i + ny ≤ j → lo.getD j 0 = 0) ∧ Hid (OwnL wr w2.heap.size (.slice (some ⟨w2.heap.size, 0, none⟩) (nx + ny + 1) (nx + ny + 1)) lo) ∧ Hid (Below w2.heap.size w2 wr)) (fun v _ => nx - (intOf v).toNat)
  case atStart =>
    have ho := owns_zeros w2 w2.heap.size (nx + ny + 1) (Nat.le_refl _) (by omega)
    refine ⟨0, List.replicate (nx + ny + 1) 0, Lib.hid (Nat.zero_le _), rfl, Lib.hid ⟨by simp, halves_zeros _, by rw [valH_replicate]; simp [valH], fun j _ => by simp [List.getD, List.getElem?_replicate]; split <;> rfl⟩, Lib.hid ?_, Lib.hid ((Below.refl _ _).alloc (Nat.le_refl _) _)⟩
    unfold OwnL
    rw [List.length_replicate]
    exact ho
  case round =>
    obtain ⟨i, lo, Hi, rfl, hR, hown, hB⟩ := hrel
    by_cases h1 : (i : Int) < (nx : Int)
    · obtain ⟨q1, o1, ea, hcx0⟩ := (HX.out wr hB.out).2.2.2 i (by rw [HXS.out.2.2]; omega)
      subst ea
      have hq1 : q1 < w2.heap.size := by
        obtain ⟨q, o, e, hc⟩ := (HX.out w2 (Below.refl _ _)).2.2.2 i (by rw [HXS.out.2.2]; omega)
        cases e
        exact cell_lt hc
      obtain ⟨x, hx⟩ : ∃ x, xs.getD i 0 = x := ⟨_, rfl⟩
      have hxl : x < 4294967296 := by rw [← hx]; exact halves_get HXS.out.2.1 i
      have HXe := Lib.hid hx
      have HXc : Hid (∀ wx, Below w2.heap.size w2 wx → wx.cell? ⟨q1, o1 + i, none⟩ = some (.int .u64 (x : Int))) := Lib.hid fun wx h => by
        obtain ⟨q, o, e, hc⟩ := (HX.out wx h).2.2.2 i (by rw [HXS.out.2.2]; omega)
        cases e
        rw [hx] at hc
        exact hc
      have hxi : (x : Int) < 4294967296 := by omega
      have HXl := Lib.hid hxl
      have hii : (i : Int) ≤ 20000 := by omega
      have hi0 : (0 : Int) ≤ (i : Int) := by omega
      clear hx hcx0 hxl
      go_wp2_with fail
      go_loopw [9, 10] (fun u v wr => ∃ (k cy : Nat) (os : List Nat), Hid (k ≤ ny) ∧ v = .int .i64 (k : Int) ∧ u = .int .u64 (cy : Int) ∧ Hid (cy < 4294967296 ∧ os.length = k ∧ Halves os ∧ valH os + 4294967296 ^ k * cy = valH ((lo.drop i).take k) + valH (ys.take k) * x) ∧ Hid (OwnL wr w2.heap.size (.slice (some ⟨w2.heap.size, 0, none⟩) (nx + ny + 1) (nx + ny + 1)) (patch lo i os)) ∧ Hid (Below w2.heap.size w2 wr)) (fun _ v _ => ny - (intOf v).toNat)
      case atStart => exact ⟨0, 0, [], Lib.hid (Nat.zero_le _), rfl, rfl, Lib.hid ⟨by decide, rfl, halves_nil, by simp [valH]⟩, Lib.hid (by rw [patch_nil]; exact hown.out), hB⟩
      case round =>
        obtain ⟨k, cy, os, Hk, rfl, rfl, hS, hownk, hBk⟩ := hrel
        by_cases h2 : (k : Int) < (ny : Int)
        · obtain ⟨q2, o2, eb, hcy⟩ := (HY.out wr hBk.out).2.2.2 k (by rw [HYS.out.2.2]; omega)
          subst eb
          have hcx := HXc.out wr hBk.out
          obtain ⟨y, hy⟩ : ∃ y, ys.getD k 0 = y := ⟨_, rfl⟩
          have hyl : y < 4294967296 := by rw [← hy]; exact halves_get HYS.out.2.1 k
          rw [hy] at hcy
          obtain ⟨o, ho⟩ : ∃ o, lo.getD (i + k) 0 = o := ⟨_, rfl⟩
          have hol : o < 4294967296 := by rw [← ho]; exact halves_get hR.out.2.1 _
          have hco : wr.cell? ⟨w2.heap.size, i + k, none⟩ = some (.int .u64 (o : Int)) := by
            have e1 := hS.out.2.1
            have e2 := hR.out.1
            refine OwnL.cell hownk.out (i + k) o ?_
            rw [← e1, patch_at lo os i (by omega), e1, List.getElem?_eq_getElem (by omega), ← ho]
            simp [List.getD, show i + k < lo.length by omega]
          have hfo := OwnL.thaw hownk.out (i + k)
          have hPb := Nat.mul_le_mul (show x ≤ 4294967295 by have := HXl.out; omega) (show y ≤ 4294967295 by omega)
          obtain ⟨P, hP⟩ : ∃ P, x * y = P := ⟨_, rfl⟩
          rw [hP] at hPb
          have dP : IntKind.u64.wrap ((x : Int) * (y : Int)) = (P : Int) := by rw [IntKind.wrap_u64, ← hP]; simp; omega
          obtain ⟨S, hSe⟩ : ∃ S, o + P + cy = S := ⟨_, rfl⟩
          have hcyl := hS.out.1
          have t0 : (o : Int) + (P : Int) + (cy : Int) = (S : Int) := by omega
          obtain ⟨sl, hsl⟩ : ∃ z, S % 4294967296 = z := ⟨_, rfl⟩
          obtain ⟨sh, hsh⟩ : ∃ z, S / 4294967296 = z := ⟨_, rfl⟩
          have t1 : (S : Int) % 4294967296 = (sl : Int) := by omega
          have t2 : (S : Int) / 4294967296 = (sh : Int) := by omega
          have HN : Hid (valH (os ++ [sl]) + 4294967296 ^ (k + 1) * sh = valH ((lo.drop i).take (k + 1)) + valH (ys.take (k + 1)) * x ∧ sl < 4294967296 ∧ sh < 4294967296) := Lib.hid ⟨by
            rw [← hsl, ← hsh]
            exact mulsH_step ys (lo.drop i) os x k cy y o S hS.out.2.1 hS.out.2.2.2 hy (by rw [getD_drop]; exact ho) (by rw [← hSe, hP]), by omega, by omega⟩
          have hoi : (o : Int) < 4294967296 := by omega
          have hPi : (P : Int) ≤ 18446744065119617025 := by omega
          have hci : (cy : Int) < 4294967296 := by omega
          have hki : (k : Int) ≤ 20000 := by omega
          have hk0 : (0 : Int) ≤ (k : Int) := by omega
          have hik0 : (0 : Int) ≤ (i : Int) + (k : Int) := by omega
          have hik1 : (i : Int) + (k : Int) < (nx : Int) + (ny : Int) + 1 := by omega
          have hik2 : ((i : Int) + (k : Int)).toNat = i + k := by omega
          have hne1 : q1 ≠ w2.heap.size := by omega
          clear hy ho hP hSe hsl hsh hcyl hyl hol hPb
          go_wp2_with fail
          go_quiet (fail)
          go_wp2_with fail
          go_roundw
          case rel =>
            refine ⟨k + 1, sh, os ++ [sl], Lib.hid (by omega), by go_num, rfl, Lib.hid ⟨HN.out.2.2, by rw [List.length_append, hS.out.2.1]; rfl, hS.out.2.2.1.snoc HN.out.2.1, HN.out.1⟩, Lib.hid ?_, Lib.hid ?_⟩
            · have e1 := hS.out.2.1
              have e2 := hR.out.1
              have h := OwnL.store (OwnL.later hownk.out (below_drewN (Below.refl _ _) nq)) (i + k) sl _ rfl
              rw [← e1, patch_set lo os i _ (by omega)] at h
              rw [← e1]
              exact h
            · exact (below_drewN hBk.out nq).setCell (Nat.le_refl _) _
          case measure => simp [intOf]; omega
        · have hkn : k = ny := by have := Hk.out; omega
          have hco : wr.cell? ⟨w2.heap.size, i + ny, none⟩ = some (.int .u64 0) := by
            have e1 := hS.out.2.1
            have e2 := hR.out.1
            refine OwnL.cell hownk.out (i + ny) 0 ?_
            rw [← hkn, ← e1, patch_at lo os i (by omega), e1, hkn, List.getElem?_eq_getElem (by omega)]
            have := hR.out.2.2.2 (i + ny) (Nat.le_refl _)
            simpa [List.getD, show i + ny < lo.length by omega] using this
          have hfo := OwnL.thaw hownk.out (i + ny)
          have hik0 : (0 : Int) ≤ (i : Int) + (ny : Int) := by omega
          have hik1 : (i : Int) + (ny : Int) < (nx : Int) + (ny : Int) + 1 := by omega
          have hik2 : ((i : Int) + (ny : Int)).toNat = i + ny := by omega
          have HMR := Lib.hid (mulsH_round ys xs lo os i ny nx cy x HYS.out.2.2 hR.out.1 (by omega) hR.out.2.2.2 hR.out.2.2.1 (by rw [hS.out.2.1]; exact hkn) (by have h := hS.out.2.2.2; rw [hkn, ← HYS.out.2.2, List.take_length, HYS.out.2.2] at h; exact h) HXe.out)
          have Hkn := Lib.hid hkn
          clear hkn
          go_wp2_with fail
          go_roundw
          case rel =>
            refine ⟨i + 1, _, Lib.hid (by omega), by go_num, Lib.hid ⟨HMR.out.2.2, ?_, HMR.out.1, HMR.out.2.1⟩, Lib.hid ?_, Lib.hid ?_⟩
            · exact (patch_halves hR.out.2.1 hS.out.2.2.1 i).set _ _ hS.out.1
            · exact OwnL.store hownk.out (i + ny) cy _ rfl
            · exact hBk.out.setCell (Nat.le_refl _) _
          case measure => simp [intOf]; omega
    · have hin : i = nx := by have := Hi.out; omega
      have hv := hR.out.2.2.1
      rw [hin, ← HXS.out.2.2, List.take_length, HXS.out.1, HYS.out.1] at hv
      have hJ := join_any _ _ _ wr (OwnL.arr' (by have h := hown.out; rw [← hR.out.1] at h; exact h) (halves_limbs hR.out.2.1)) hR.out.2.1 (by rw [hR.out.1]; omega)
      rw [hv, hR.out.1] at hJ
      have HB9 := Lib.hid (below_step HBW.out hB.out)
      clear hin hv hown
      go_wp2_with fail
      refine hJ.mono ?_
      rintro e w10 ⟨v, rfl, ho, hb⟩
      have HO := Lib.hid (OwnL.weaken ho HB9.out.size)
      have HB10 := Lib.hid (below_step HB9.out hb)
      clear hJ ho hb
      go_wp2_with fail
      go_ret
      exact ⟨v, rfl, HO.out, HB10.out⟩
end Go.Proofs.YtjfjkabmpiebpaaDoor
