/-
  The reference of layer 2: Cmp, Add, Sub.
-/
import Derived.Test.YtjfjkabmpiebpaaDoorNatU
set_option linter.unusedSimpArgs false
set_option linter.unusedVariables false
namespace Go.Plumb
theorem halves_limbs {l : List Nat} (h : Halves l) : Limbs l := fun x hx => by have := h x hx; omega
theorem valH_take_any (l : List Nat) (k : Nat) : valH (l.take (k + 1)) = valH (l.take k) + 4294967296 ^ k * l.getD k 0 := by
  by_cases h : k < l.length
  · exact valH_take_succ l k h
  · have e : l.getD k 0 = 0 := by simp [List.getD, List.getElem?_eq_none (Nat.le_of_not_lt h)]
    rw [e, List.take_of_length_le (by omega), List.take_of_length_le (by omega)]; omega
theorem valH_one (x : Nat) : valH [x] = x := by simp [valH]
theorem Halves.snoc {l : List Nat} {x : Nat} (h : Halves l) (hx : x < 4294967296) : Halves (l ++ [x]) := by
  intro y hy
  rcases List.mem_append.1 hy with hy | hy
  · exact h y hy
  · simp at hy; subst hy; exact hx
theorem addH_step (la lb os : List Nat) (i cy x y s : Nat) (hos : os.length = i) (hv : valH os + 4294967296 ^ i * cy = valH (la.take i) + valH (lb.take i)) (hx : la.getD i 0 = x) (hy : lb.getD i 0 = y) (hs : x + y + cy = s) :
    valH (os ++ [s % 4294967296]) + 4294967296 ^ (i + 1) * (s / 4294967296) = valH (la.take (i + 1)) + valH (lb.take (i + 1)) := by
  rw [valH_append, hos, valH_take_any la i, valH_take_any lb i, hx, hy, valH_one, Nat.pow_succ, Nat.mul_assoc]
  have e2 : s % 4294967296 + 4294967296 * (s / 4294967296) = x + y + cy := by omega
  have e3 := congrArg (4294967296 ^ i * ·) e2
  simp only [Nat.mul_add] at e3 ⊢
  omega
end Go.Plumb
namespace Go.Proofs.YtjfjkabmpiebpaaDoor
open Go.RowKit Go.Plumb

theorem limbs_eq_iff {A B : Nat} (h : (limbs A).length = (limbs B).length) (he : ∀ j, j < (limbs A).length → (limbs A).getD j 0 = (limbs B).getD j 0) : A = B := by
  apply limbs_inj
  apply List.ext_getElem h
  intro j h3 h4
  have := he j h3
  simpa only [List.getD, List.getElem?_eq_getElem h3, List.getElem?_eq_getElem h4, Option.getD_some] using this
theorem limbs_less {A B : Nat} (h : (limbs A).length = (limbs B).length) (k : Nat) (hk : k < (limbs A).length) (he : ∀ j, k < j → j < (limbs A).length → (limbs A).getD j 0 = (limbs B).getD j 0) (hlt : (limbs A).getD k 0 < (limbs B).getD k 0) : A < B := by
  have hd : (limbs A).drop (k + 1) = (limbs B).drop (k + 1) := by
    apply List.ext_getElem (by simp; omega)
    intro j h3 h4
    simp only [List.length_drop] at h3 h4
    have := he (k + 1 + j) (by omega) (by omega)
    simp only [List.getD, List.getElem?_eq_getElem (show k + 1 + j < (limbs A).length by omega), List.getElem?_eq_getElem (show k + 1 + j < (limbs B).length by omega), Option.getD_some] at this
    rw [List.getElem_drop, List.getElem_drop]
    exact this
  have := valL_lt_of (limbs_limbs A) h k hk hd hlt
  rwa [valL_limbs, valL_limbs] at this
set_option maxHeartbeats 2000000 in
/-- The reference's Cmp. -/
theorem rcmp_any (a b : Option Addr) (c d : Nat) (l m : List Nat) (w : World) (hA : Arr w a c l) (hB : Arr w b d m) (hl : l.length ≤ 100000) (hm : m.length ≤ 100000) :
    Calls Tryd.prog 22 #[.slice a l.length c, .slice b m.length d] w fun e w' => e = .returned (.int .i64 (cmpN (valL l) (valL m))) ∧ Below w.heap.size w w' := by
  have hN1 := rnorm_any a c l w hA hl
  have HB : Hid (∀ wr, Below w.heap.size w wr → Arr wr b d m) := Lib.hid fun wr h => hB.below h
  have Hm := Lib.hid hm
  have hl1 := limbs_length_le hA.2.2.1
  have hl2 := limbs_length_le hB.2.2.1
  obtain ⟨A, hAe⟩ : ∃ A, valL l = A := ⟨_, rfl⟩
  obtain ⟨B, hBe⟩ : ∃ B, valL m = B := ⟨_, rfl⟩
  rw [hAe] at hN1 hl1 ⊢
  rw [hBe] at hl2 ⊢
  obtain ⟨n1, hn1⟩ : ∃ n, (limbs A).length = n := ⟨_, rfl⟩
  obtain ⟨n2, hn2⟩ : ∃ n, (limbs B).length = n := ⟨_, rfl⟩
  obtain ⟨N, hN⟩ : ∃ n, l.length = n := ⟨_, rfl⟩
  obtain ⟨M, hM⟩ : ∃ n, m.length = n := ⟨_, rfl⟩
  have HBe := Lib.hid hBe
  have Hn1 := Lib.hid hn1
  have Hn2 := Lib.hid hn2
  have HM := Lib.hid hM
  rw [hN] at hN1 hl1 hl ⊢
  rw [hM] at hm hl2 ⊢
  have k1 : n1 ≤ 100000 := by omega
  have k2 : n2 ≤ 100000 := by omega
  have K1 := Lib.hid k1
  have K2 := Lib.hid k2
  clear hA hB hAe hBe hn1 hn2 hN hM hl1 hl2 hl hm k1 k2
  go_enter Tryd.func22, Tryd.ntmps22
  go_wp2_with fail
  refine hN1.mono ?_
  rintro e w1 ⟨v1, rfl, ho1, hb1⟩
  obtain ⟨a1, c1, rfl⟩ := OwnL.shape ho1
  have hN2 := rnorm_any b d m w1 (HB.out w1 hb1) Hm.out
  rw [HM.out, HBe.out] at hN2
  have HA1 := Lib.hid (OwnL.arr' ho1 (limbs_limbs A))
  have HB1 := Lib.hid hb1
  rw [Hn1.out]
  clear hN1 ho1 hb1
  go_wp2_with fail
  refine hN2.mono ?_
  rintro e w2 ⟨v2, rfl, ho2, hb2⟩
  obtain ⟨b1, d1, rfl⟩ := OwnL.shape ho2
  have HA2 : Hid (∀ wr, Below w2.heap.size w2 wr → Arr wr a1 c1 (limbs A)) := Lib.hid fun wr h => (HA1.out.below hb2).below h
  have HB2 : Hid (∀ wr, Below w2.heap.size w2 wr → Arr wr b1 d1 (limbs B)) := Lib.hid fun wr h => (OwnL.arr' ho2 (limbs_limbs B)).below h
  have HBW := Lib.hid (below_step HB1.out hb2)
  rw [Hn2.out]
  clear hN2 ho2 hb2
  by_cases h1 : n1 < n2
  · have e : cmpN A B = -1 := by
      have := lt_of_length (a := A) (b := B) (by rw [Hn1.out, Hn2.out]; exact h1)
      unfold cmpN; rw [if_pos this]
    have z1 : ((n1 : Int) != (n2 : Int)) = true := by simp; omega
    have z2 : (n1 : Int) < (n2 : Int) := by omega
    have He := Lib.hid e
    clear h1 e
    go_wp2_with fail
    go_ret
    exact ⟨ret_int' He.out.symm, HBW.out⟩
  · by_cases h2 : n2 < n1
    · have e : cmpN A B = 1 := by
        have := lt_of_length (a := B) (b := A) (by rw [Hn1.out, Hn2.out]; exact h2)
        unfold cmpN; rw [if_neg (by omega), if_pos this]
      have z1 : ((n1 : Int) != (n2 : Int)) = true := by simp; omega
      have z2 : ¬ (n1 : Int) < (n2 : Int) := by omega
      have He := Lib.hid e
      clear h1 h2 e
      go_wp2_with fail
      go_ret
      exact ⟨ret_int' He.out.symm, HBW.out⟩
    · obtain rfl : n2 = n1 := by omega
      have z1 : ((n2 : Int) != (n2 : Int)) = false := by simp
      have k63 : n2 ≤ 9223372036854775807 := by have := K1.out; omega
      clear h1 h2
      go_wp2_with fail
      go_loopw [5] (fun v wr => ∃ m : Nat, m ≤ n2 ∧ v = .int .i64 ((m : Int) - 1) ∧ Hid (∀ j, m ≤ j → j < n2 → (limbs A).getD j 0 = (limbs B).getD j 0) ∧ Hid (Below w2.heap.size w2 wr)) (fun v _ => (intOf v + 1).toNat)
      case atStart => exact ⟨n2, Nat.le_refl _, rfl, Lib.hid fun j h1 h2 => by omega, Lib.hid (Below.refl _ _)⟩
      case round =>
        obtain ⟨m, hm, rfl, hz, hB⟩ := hrel
        cases m with
        | zero =>
          have He : Hid (cmpN A B = 0) := Lib.hid (by
            have : A = B := limbs_eq_iff (by rw [Hn1.out, Hn2.out]) (fun j hj => hz.out j (Nat.zero_le _) (by rw [Hn1.out] at hj; exact hj))
            subst this; unfold cmpN; simp)
          go_wp2_with fail
          go_ret
          exact ⟨ret_int' He.out.symm, below_step HBW.out hB.out⟩
        | succ k =>
          obtain ⟨q1, o1, ea, hc1⟩ := (HA2.out wr hB.out).2.2.2 k (by rw [Hn1.out]; omega)
          obtain ⟨q2, o2, eb, hc2⟩ := (HB2.out wr hB.out).2.2.2 k (by rw [Hn2.out]; omega)
          obtain ⟨x, hx⟩ : ∃ x, (limbs A).getD k 0 = x := ⟨_, rfl⟩
          obtain ⟨y, hy⟩ : ∃ y, (limbs B).getD k 0 = y := ⟨_, rfl⟩
          rw [hx] at hc1
          rw [hy] at hc2
          have HX := Lib.hid hx
          have HY := Lib.hid hy
          have ek : ((k + 1 : Nat) : Int) - 1 = (k : Int) := by omega
          rw [ek]
          have z2 : (0 : Int) ≤ (k : Int) := by omega
          have z3 : (k : Int) < (n2 : Int) := by omega
          have HK : Hid (k < n2) := Lib.hid (by omega)
          subst ea eb
          clear hx hy ek hm
          by_cases h1 : (x : Int) < (y : Int)
          · have He : Hid (cmpN A B = -1) := Lib.hid (by
              have := limbs_less (A := A) (B := B) (by rw [Hn1.out, Hn2.out]) k (by rw [Hn1.out]; exact HK.out) (fun j h2 h3 => hz.out j (by omega) (by rw [Hn1.out] at h3; exact h3)) (by rw [HX.out, HY.out]; omega)
              unfold cmpN; rw [if_pos this])
            go_wp2_with fail
            go_quiet (fail)
            go_wp2_with fail
            go_ret
            exact ⟨ret_int' He.out.symm, below_step HBW.out (below_drewN hB.out _)⟩
          · by_cases h2 : (y : Int) < (x : Int)
            · have He : Hid (cmpN A B = 1) := Lib.hid (by
                have := limbs_less (A := B) (B := A) (by rw [Hn1.out, Hn2.out]) k (by rw [Hn2.out]; exact HK.out) (fun j h2 h3 => (hz.out j (by omega) (by rw [Hn2.out] at h3; exact h3)).symm) (by rw [HX.out, HY.out]; omega)
                unfold cmpN; rw [if_neg (by omega), if_pos this])
              go_wp2_with fail
              go_quiet (fail)
              go_wp2_with fail
              go_quiet (fail)
              go_wp2_with fail
              go_ret
              exact ⟨ret_int' He.out.symm, below_step HBW.out (by (repeat' (first | exact Below.refl _ _ | assumption | (refine below_alloc ?_ _) | (refine Below.setCell ?_ ?_ _) | (refine Below.drew ?_) | (refine below_drewN ?_ _))) <;> (first | (simp; done) | (simp; omega) | omega))⟩
            · have hxy : x = y := by omega
              have HXY := Lib.hid hxy
              clear hxy
              go_wp2_with fail
              go_quiet (fail)
              go_wp2_with fail
              go_quiet (fail)
              go_wp2_with fail
              go_roundw
              case rel =>
                refine ⟨k, by have := HK.out; omega, rfl, Lib.hid fun j h3 h4 => ?_, Lib.hid (by have h := hB.out; (repeat' (first | exact Below.refl _ _ | assumption | (refine below_alloc ?_ _) | (refine Below.setCell ?_ ?_ _) | (refine Below.drew ?_) | (refine below_drewN ?_ _))) <;> (first | (simp; done) | (simp; omega) | omega))⟩
                by_cases hj : j = k
                · subst hj; rw [HX.out, HY.out, HXY.out]
                · exact hz.out j (by omega) h4
              case measure => simp [intOf]
theorem halves_nil : Halves [] := fun x hx => by cases hx
theorem own_snoc {w : World} {B : Nat} {v : Value} {l : List Nat} {x : Nat} (h : w.ownsRow B 36 1 v (l.length + 1) (l.map limbV ++ [limbV x])) : OwnL w B v (l ++ [x]) := by
  unfold OwnL
  rw [List.length_append, List.map_append]
  exact h
theorem below_snoc {w0 w w9 : World} {v : Value} {l : List Nat} {o : Obj} (hB : Below w0.heap.size w0 w) (h : OwnL w w0.heap.size v l) (hg : (w.alloc o).grownBy w9 v.ownBlock) : Below w0.heap.size w0 w9 := by
  refine (hB.alloc hB.size _).grown hg (by have := hB.size; simp; omega) ?_
  intro q hq
  exact (World.ownsRow.lt (show w.ownsRow w0.heap.size 36 1 v l.length (l.map limbV) from h) q hq).1
set_option maxHeartbeats 2000000 in
/-- The reference's Add. -/
theorem radd_any (a b : Option Addr) (c d : Nat) (l m : List Nat) (w : World) (hA : Arr w a c l) (hB : Arr w b d m) (hl : l.length ≤ 10000) (hm : m.length ≤ 10000) :
    Calls Tryd.prog 19 #[.slice a l.length c, .slice b m.length d] w fun e w' => ∃ v, e = .returned v ∧ OwnL w' w.heap.size v (limbs (valL l + valL m)) ∧ Below w.heap.size w w' := by
  obtain ⟨i0, hi, hz0, hz1, hz2⟩ := info_parts info_u64
  have hC1 := cut_any a c l w hA (by omega)
  have HB : Hid (∀ wr, Below w.heap.size w wr → Arr wr b d m) := Lib.hid fun wr h => hB.below h
  have HlimA := Lib.hid hA.2.2.1
  have HlimB := Lib.hid hB.2.2.1
  obtain ⟨xs, hxs⟩ : ∃ xs, cutH l = xs := ⟨_, rfl⟩
  obtain ⟨ys, hys⟩ : ∃ ys, cutH m = ys := ⟨_, rfl⟩
  rw [hxs] at hC1
  obtain ⟨nx, hnx⟩ : ∃ n, xs.length = n := ⟨_, rfl⟩
  obtain ⟨ny, hny⟩ : ∃ n, ys.length = n := ⟨_, rfl⟩
  have HXS : Hid (valH xs = valL l ∧ Halves xs ∧ xs.length = nx) := Lib.hid ⟨by rw [← hxs, valH_cut], by rw [← hxs]; exact cutH_halves hA.2.2.1, hnx⟩
  have HYS : Hid (valH ys = valL m ∧ Halves ys ∧ ys.length = ny) := Lib.hid ⟨by rw [← hys, valH_cut], by rw [← hys]; exact cutH_halves hB.2.2.1, hny⟩
  have hxb : nx ≤ 20000 := by rw [← hnx, ← hxs, cutH_length]; omega
  have hyb : ny ≤ 20000 := by rw [← hny, ← hys, cutH_length]; omega
  have Hys := Lib.hid hys
  have Hm := Lib.hid hm
  obtain ⟨M, hM⟩ : ∃ n, m.length = n := ⟨_, rfl⟩
  have HM := Lib.hid hM
  rw [hM]
  clear hA hB hxs hys hnx hny hM hm
  go_enter Tryd.func19, Tryd.ntmps19
  go_wp2_with fail
  refine hC1.mono ?_
  rintro e w1 ⟨v1, rfl, ho1, hb1⟩
  have hC2 := cut_any b d m w1 (HB.out w1 hb1) (by have := Hm.out; omega)
  rw [Hys.out, HM.out] at hC2
  obtain ⟨a1, c1, rfl⟩ := OwnL.shape ho1
  have HA1 := Lib.hid (OwnL.arr' ho1 (halves_limbs HXS.out.2.1))
  have HB1 := Lib.hid hb1
  rw [HXS.out.2.2]
  clear hC1 ho1 hb1
  go_wp2_with fail
  refine hC2.mono ?_
  rintro e w2 ⟨v2, rfl, ho2, hb2⟩
  obtain ⟨b1, d1, rfl⟩ := OwnL.shape ho2
  have HX : Hid (∀ wr, Below w2.heap.size w2 wr → Arr wr a1 c1 xs) := Lib.hid fun wr h => (HA1.out.below hb2).below h
  have HY : Hid (∀ wr, Below w2.heap.size w2 wr → Arr wr b1 d1 ys) := Lib.hid fun wr h => (OwnL.arr' ho2 (halves_limbs HYS.out.2.1)).below h
  have HBW := Lib.hid (below_step HB1.out hb2)
  rw [HYS.out.2.2]
  clear hC2 ho2 hb2
  go_wp2_with fail
  go_loopw [7, 8, 9] (fun u cv v wr => ∃ (i : Nat) (os : List Nat) (cy : Nat) (q : Value), Hid (i ≤ nx ∨ i ≤ ny) ∧ v = .int .i64 (i : Int) ∧ cv = .int .u64 (cy : Int) ∧ q = u ∧ Hid (os.length = i ∧ Halves os ∧ cy ≤ 1 ∧ valH os + 4294967296 ^ i * cy = valH (xs.take i) + valH (ys.take i)) ∧ Hid (OwnL wr w2.heap.size q os) ∧ Hid (Below w2.heap.size w2 wr)) (fun _ _ v _ => nx + ny - (intOf v).toNat)
  case atStart => exact ⟨0, [], 0, _, Lib.hid (.inl (Nat.zero_le _)), rfl, rfl, rfl, Lib.hid ⟨rfl, halves_nil, Nat.zero_le _, by simp [valH]⟩, Lib.hid (World.ownsRow_nil _ _ _ _), Lib.hid (Below.refl _ _)⟩
  case round =>
    obtain ⟨i, os, cy, u, Hi, rfl, rfl, rfl, hR, hown, hB⟩ := hrel
    by_cases h1 : (i : Int) < (nx : Int)
    · have z1 : decide ((i : Int) < (nx : Int)) = true := by simp; omega
      have hdx := digit_any a1 c1 i xs wr (HX.out wr hB.out) (by have := Hi.out; omega)
      have hdy := digit_any b1 d1 i ys wr (HY.out wr hB.out) (by have := Hi.out; omega)
      rw [HXS.out.2.2] at hdx
      rw [HYS.out.2.2] at hdy
      obtain ⟨x, hx⟩ : ∃ x, xs.getD i 0 = x := ⟨_, rfl⟩
      obtain ⟨y, hy⟩ : ∃ y, ys.getD i 0 = y := ⟨_, rfl⟩
      have hxl : x < 4294967296 := by rw [← hx]; exact halves_get HXS.out.2.1 i
      have hyl : y < 4294967296 := by rw [← hy]; exact halves_get HYS.out.2.1 i
      rw [hx] at hdx
      rw [hy] at hdy
      obtain ⟨S, hS⟩ : ∃ S, x + y + cy = S := ⟨_, rfl⟩
      have hcy1 := hR.out.2.2.1
      have t0 : (x : Int) + (y : Int) + (cy : Int) = (S : Int) := by omega
      obtain ⟨sl, hsl⟩ : ∃ z, S % 4294967296 = z := ⟨_, rfl⟩
      obtain ⟨sh, hsh⟩ : ∃ z, S / 4294967296 = z := ⟨_, rfl⟩
      have t1 : (S : Int) % 4294967296 = (sl : Int) := by omega
      have t2 : (S : Int) / 4294967296 = (sh : Int) := by omega
      have HS : Hid (valH (os ++ [sl]) + 4294967296 ^ (i + 1) * sh = valH (xs.take (i + 1)) + valH (ys.take (i + 1)) ∧ Halves (os ++ [sl]) ∧ sh ≤ 1) := Lib.hid ⟨by rw [← hsl, ← hsh]; exact addH_step xs ys os i cy x y S hR.out.1 hR.out.2.2.2 hx hy hS, hR.out.2.1.snoc (by omega), by omega⟩
      have HLn : Hid (os.length = i ∧ i ≤ 20000) := Lib.hid ⟨hR.out.1, by have := Hi.out; omega⟩
      have hsz : w2.heap.size ≤ wr.heap.size := hB.out.size
      have hcyb : (cy : Int) ≤ 1 := by omega
      have hxi : (x : Int) < 4294967296 := by omega
      have hyi : (y : Int) < 4294967296 := by omega
      clear hx hy hS hsl hsh hcy1 hxl hyl
      go_wp2_with (first | (go_at_call 54; (with_reducible refine hdx.mono ?_); rintro e w' ⟨rfl, rfl⟩) | (go_at_call 54; (with_reducible refine hdy.mono ?_); rintro e w' ⟨rfl, rfl⟩) | (at_builtin; refine wpList_append_own _ rfl _ _ 22 rfl w2.heap.size 36 i0 (.int .u64 0) 1 8 Tryd.underlying22 hi hz0 hz1 hz2 rfl (by decide) u os.length (os.map limbV) rfl (World.ownsRow.alloc hown.out _) ⟨wr.heap.size, 0, none⟩ 1 1 [limbV sl] rfl rfl (one_cell _ _ _) (one_one _) (by have := HLn.out; unfold maxLen; omega) (by have := HLn.out; omega) (by simp; omega) ?_; intro v' w9 hown9 hgrow9 _))
      go_roundw
      case rel => exact ⟨i + 1, os ++ [sl], sh, _, Lib.hid (.inl (by omega)), by go_num, rfl, rfl, Lib.hid ⟨by rw [List.length_append, hR.out.1]; rfl, HS.out.2.1, HS.out.2.2, HS.out.1⟩, Lib.hid (own_snoc hown9), Lib.hid (below_snoc hB.out hown.out hgrow9)⟩
      case measure => simp [intOf]; omega
    · have z1 : decide ((i : Int) < (nx : Int)) = false := by simp; omega
      by_cases h2 : (i : Int) < (ny : Int)
      · have z2 : decide ((i : Int) < (ny : Int)) = true := by simp; omega
        have hdx := digit_any a1 c1 i xs wr (HX.out wr hB.out) (by have := Hi.out; omega)
        have hdy := digit_any b1 d1 i ys wr (HY.out wr hB.out) (by have := Hi.out; omega)
        rw [HXS.out.2.2] at hdx
        rw [HYS.out.2.2] at hdy
        obtain ⟨x, hx⟩ : ∃ x, xs.getD i 0 = x := ⟨_, rfl⟩
        obtain ⟨y, hy⟩ : ∃ y, ys.getD i 0 = y := ⟨_, rfl⟩
        have hxl : x < 4294967296 := by rw [← hx]; exact halves_get HXS.out.2.1 i
        have hyl : y < 4294967296 := by rw [← hy]; exact halves_get HYS.out.2.1 i
        rw [hx] at hdx
        rw [hy] at hdy
        obtain ⟨S, hS⟩ : ∃ S, x + y + cy = S := ⟨_, rfl⟩
        have hcy1 := hR.out.2.2.1
        have t0 : (x : Int) + (y : Int) + (cy : Int) = (S : Int) := by omega
        obtain ⟨sl, hsl⟩ : ∃ z, S % 4294967296 = z := ⟨_, rfl⟩
        obtain ⟨sh, hsh⟩ : ∃ z, S / 4294967296 = z := ⟨_, rfl⟩
        have t1 : (S : Int) % 4294967296 = (sl : Int) := by omega
        have t2 : (S : Int) / 4294967296 = (sh : Int) := by omega
        have HS : Hid (valH (os ++ [sl]) + 4294967296 ^ (i + 1) * sh = valH (xs.take (i + 1)) + valH (ys.take (i + 1)) ∧ Halves (os ++ [sl]) ∧ sh ≤ 1) := Lib.hid ⟨by rw [← hsl, ← hsh]; exact addH_step xs ys os i cy x y S hR.out.1 hR.out.2.2.2 hx hy hS, hR.out.2.1.snoc (by omega), by omega⟩
        have HLn : Hid (os.length = i ∧ i ≤ 20000) := Lib.hid ⟨hR.out.1, by have := Hi.out; omega⟩
        have hsz : w2.heap.size ≤ wr.heap.size := hB.out.size
        have hcyb : (cy : Int) ≤ 1 := by omega
        have hxi : (x : Int) < 4294967296 := by omega
        have hyi : (y : Int) < 4294967296 := by omega
        clear hx hy hS hsl hsh hcy1 hxl hyl
        go_wp2_with (first | (go_at_call 54; (with_reducible refine hdx.mono ?_); rintro e w' ⟨rfl, rfl⟩) | (go_at_call 54; (with_reducible refine hdy.mono ?_); rintro e w' ⟨rfl, rfl⟩) | (at_builtin; refine wpList_append_own _ rfl _ _ 22 rfl w2.heap.size 36 i0 (.int .u64 0) 1 8 Tryd.underlying22 hi hz0 hz1 hz2 rfl (by decide) u os.length (os.map limbV) rfl (World.ownsRow.alloc hown.out _) ⟨wr.heap.size, 0, none⟩ 1 1 [limbV sl] rfl rfl (one_cell _ _ _) (one_one _) (by have := HLn.out; unfold maxLen; omega) (by have := HLn.out; omega) (by simp; omega) ?_; intro v' w9 hown9 hgrow9 _))
        go_roundw
        case rel => exact ⟨i + 1, os ++ [sl], sh, _, Lib.hid (.inr (by omega)), by go_num, rfl, rfl, Lib.hid ⟨by rw [List.length_append, hR.out.1]; rfl, HS.out.2.1, HS.out.2.2, HS.out.1⟩, Lib.hid (own_snoc hown9), Lib.hid (below_snoc hB.out hown.out hgrow9)⟩
        case measure => simp [intOf]; omega
      · have z2 : decide ((i : Int) < (ny : Int)) = false := by simp; omega
        have HLn : Hid (os.length = i ∧ i ≤ 20000) := Lib.hid ⟨hR.out.1, by have := Hi.out; omega⟩
        have hsz : w2.heap.size ≤ wr.heap.size := hB.out.size
        have HV : Hid (valH (os ++ [cy]) = valL l + valL m ∧ Halves (os ++ [cy]) ∧ (os ++ [cy]).length ≤ 20001) := Lib.hid (by
          obtain ⟨e1, e2, e3, e4⟩ := hR.out
          refine ⟨?_, e2.snoc (by omega), ?_⟩
          · rw [valH_append, valH_one, e1, e4, List.take_of_length_le (by rw [HXS.out.2.2]; omega), List.take_of_length_le (by rw [HYS.out.2.2]; omega), HXS.out.1, HYS.out.1]
          · rw [List.length_append, e1]; have := Hi.out; simp; omega)
        go_wp2_with (at_builtin; refine wpList_append_own _ rfl _ _ 22 rfl w2.heap.size 36 i0 (.int .u64 0) 1 8 Tryd.underlying22 hi hz0 hz1 hz2 rfl (by decide) u os.length (os.map limbV) rfl (World.ownsRow.alloc hown.out _) ⟨wr.heap.size, 0, none⟩ 1 1 [limbV cy] rfl rfl (one_cell _ _ _) (one_one _) (by have := HLn.out; unfold maxLen; omega) (by have := HLn.out; omega) (by simp; omega) ?_; intro v' w9 hown9 hgrow9 _)
        have ho9 := own_snoc hown9
        obtain ⟨a9, c9, e9⟩ := OwnL.shape ho9
        subst e9
        have hJ := join_any a9 c9 _ w9 (OwnL.arr' ho9 (halves_limbs HV.out.2.1)) HV.out.2.1 (by have := HV.out.2.2; omega)
        rw [HV.out.1] at hJ
        have HB9 := Lib.hid (below_step HBW.out (below_snoc hB.out hown.out hgrow9))
        obtain ⟨J, hJe⟩ : ∃ J, (os ++ [cy]).length = J := ⟨_, rfl⟩
        rw [hJe] at hJ ⊢
        clear ho9 hown9 hgrow9 hJe
        go_wp2_with fail
        refine hJ.mono ?_
        rintro e w10 ⟨v, rfl, ho, hb⟩
        have HO := Lib.hid (OwnL.weaken ho HB9.out.size)
        have HB10 := Lib.hid (below_step HB9.out hb)
        clear hJ ho hb
        go_wp2_with fail
        go_ret
        exact ⟨v, rfl, HO.out, HB10.out⟩
-- END radd
end Go.Proofs.YtjfjkabmpiebpaaDoor
