/-
  The reference of layer 2: Read.
-/
import Derived.Test.YtjfjkabmpiebpaaDoorNatBe
set_option linter.unusedSimpArgs false
set_option linter.unusedVariables false
namespace Go.Proofs.YtjfjkabmpiebpaaDoor
open Go.RowKit Go.Plumb

theorem ret_two' {v : Value} {a b : Int} (h : a = b) : Ending.returned (.tuple #[v, .int .i64 a]) = .returned (.tuple #[v, .int .i64 b]) := by rw [h]
set_option maxRecDepth 20000 in
set_option maxHeartbeats 1000000 in
theorem rread_bad (s : ByteArray) (w : World) (hb : s.size = 0 ∨ ∃ h : 0 < s.size, 1 < s.size ∧ s.size ≤ 1200 ∧ (s[0]'h).toNat = 48) :
    Calls Tryd.prog 33 #[.string s] w fun e w' => e = .returned (.tuple #[.slice none 0 0, .int .i64 2]) ∧ w = w' := by
  go_enter Tryd.func33, Tryd.ntmps33
  rcases hb with h | ⟨h, h1, h2, h3⟩
  · go_wp2_with fail
    go_ret2
    exact ⟨rfl, rfl⟩
  · have h3' : (((s[0]'h).toNat : Int) == 48) = true := by simp; omega
    have e3 : ((s[0]'h).toNat : Int) = 48 := by omega
    clear h3
    go_wp2_with fail
    go_ret2
    exact ⟨rfl, rfl⟩


theorem cell_keep {W w' : World} (hb : Below W.heap.size W w') : ∀ (g : Nat) (v : Value), W.cell? ⟨g, 0, none⟩ = some v → w'.cell? ⟨g, 0, none⟩ = some v := fun g v h => (hb.cell (p := ⟨g, 0, none⟩) (cell_lt h)).trans h
theorem cell_more {W : World} {g : Nat} {v : Value} (o : Obj) (h : W.cell? ⟨g, 0, none⟩ = some v) : (W.alloc o).cell? ⟨g, 0, none⟩ = some v := cell_keep ((Below.refl _ W).alloc (Nat.le_refl _) o) g v h
theorem cell_drew {W : World} {p : Addr} {v : Value} (h : W.cell? p = some v) : W.drew.cell? p = some v := h
theorem cell_newg {W : World} {g : Nat} {v : Value} {t : TypeId} (h : g = W.heap.size) : (W.alloc (.cells #[v] t)).cell? ⟨g, 0, none⟩ = some v := by subst h; exact cell_new _ _ _
theorem harr_drew {W : World} {a : Option Addr} {c : Nat} {l : List Nat} (h : Hid (Arr W a c l)) : Hid (Arr W.drew a c l) := h
theorem harr_more {W : World} {a : Option Addr} {c : Nat} {l : List Nat} (o : Obj) (h : Hid (Arr W a c l)) : Hid (Arr (W.alloc o) a c l) := Lib.hid (h.out.below ((Below.refl _ W).alloc (Nat.le_refl _) o))
theorem arr_one {W : World} {g x : Nat} (h : W.cell? ⟨g, 0, none⟩ = some (.int .u64 (x : Int))) (hx : x < 18446744073709551616) : Arr W (some ⟨g, 0, none⟩) 1 [x] := by
  refine ⟨by simp, by unfold maxLen; omega, Limbs.cons hx Limbs.nil, fun j hj => ?_⟩
  have : j = 0 := by simpa using hj
  subst this
  exact ⟨g, 0, rfl, h⟩
theorem read_small (l : List UInt8) (k : Nat) (h : DigL l) : decV (l.take k) < 10 ^ l.length := by
  refine Nat.lt_of_lt_of_le (decV_lt _ (h.take k)) (Nat.pow_le_pow_right (by decide) ?_)
  rw [List.length_take]; omega
theorem read_at (s : ByteArray) (k : Nat) (hlt : k < s.size) : s.data.toList.getD k 0 = s[k]'hlt := by
  rw [← byte_list s k hlt, List.getD, List.getElem?_eq_getElem (by rw [← Lib.size_eq]; exact hlt)]
  rfl
/-- What the round's two calls do, at any world on the way. -/
theorem readr_step (A d : Nat) (xa : Option Addr) (xn xc : Nat) (wr : World) (B : Nat) (hO : OwnL wr B (.slice xa xn xc) (limbs A)) (M : Nat) (hM : M ≤ 1200) (hA : A < 10 ^ M) (hd : d < 10) : ∃ n2 n3 : Nat, n2 ≤ 100000 ∧ n3 ≤ 100000 ∧ Hid (
    (∀ (W : World) (g : Nat), Below wr.heap.size wr W → W.cell? ⟨g, 0, none⟩ = some (.int .u64 10) → Calls Tryd.prog 25 #[.slice xa xn xc, .slice (some ⟨g, 0, none⟩) 1 1] W fun e w' => ∃ qa qc, e = .returned (.slice qa n2 qc) ∧ Hid (Arr w' qa qc (limbs (10 * A))) ∧ Below W.heap.size W w')
    ∧ (∀ (W : World) (g : Nat) (qa : Option Addr) (qc : Nat), B ≤ W.heap.size → Hid (Arr W qa qc (limbs (10 * A))) → W.cell? ⟨g, 0, none⟩ = some (.int .u64 (d : Int)) → Calls Tryd.prog 19 #[.slice qa n2 qc, .slice (some ⟨g, 0, none⟩) 1 1] W fun e w' => ∃ va vc, e = .returned (.slice va n3 vc) ∧ Hid (OwnL w' B (.slice va n3 vc) (limbs (10 * A + d))) ∧ Below W.heap.size W w')) := by
  have l1 : (limbs A).length ≤ M := ten_limbs _ _ hA
  have h2 : 10 * A + d < 10 ^ (M + 1) := by rw [Nat.pow_succ]; generalize 10 ^ M = p at *; omega
  have l2 : (limbs (10 * A)).length ≤ M + 1 := ten_limbs _ _ (by omega)
  have l3 : (limbs (10 * A + d)).length ≤ M + 1 := ten_limbs _ _ h2
  have hlen := hO.len
  subst hlen
  have hAr := OwnL.arr' hO (limbs_limbs A)
  refine ⟨(limbs (10 * A)).length, (limbs (10 * A + d)).length, by omega, by omega, Lib.hid ⟨fun W g hb hc => ?_, fun W g qa qc hBW hq hc => ?_⟩⟩
  · refine (rmul_any xa (some ⟨g, 0, none⟩) xc 1 (limbs A) [10] W (hAr.below hb) (arr_one (x := 10) hc (by decide)) (by omega) (by simp)).mono ?_
    rintro e w' ⟨v, rfl, ho, hb'⟩
    have hv : valL (limbs A) * valL [10] = 10 * A := by rw [valL_limbs]; simp [valL]; omega
    rw [hv] at ho
    obtain ⟨a, c, rfl⟩ := OwnL.shape ho
    exact ⟨a, c, rfl, Lib.hid (OwnL.arr' ho (limbs_limbs _)), hb'⟩
  · refine (radd_any qa (some ⟨g, 0, none⟩) qc 1 (limbs (10 * A)) [d] W hq.out (arr_one hc (by omega)) (by omega) (by simp)).mono ?_
    rintro e w' ⟨v, rfl, ho, hb'⟩
    have hv : valL (limbs (10 * A)) + valL [d] = 10 * A + d := by rw [valL_limbs]; simp [valL]
    rw [hv] at ho
    obtain ⟨a, c, rfl⟩ := OwnL.shape ho
    exact ⟨a, c, rfl, Lib.hid (OwnL.weaken ho hBW), hb'⟩

set_option maxRecDepth 20000 in
set_option maxHeartbeats 1000000 in
theorem rread_loop (s : ByteArray) (w : World) (h0 : 0 < s.size) (hs : s.size ≤ 1200) (hc : s.size = 1 ∨ (s[0]'h0).toNat ≠ 48) :
    Calls Tryd.prog 33 #[.string s] w fun e w' => ∃ v, e = .returned (.tuple #[v, .int .i64 (readEN s.data.toList)]) ∧ OwnL w' w.heap.size v (limbs (readVN s.data.toList)) ∧ Below w.heap.size w w' := by
  obtain ⟨V, hV⟩ : ∃ V, readVN s.data.toList = V := ⟨_, rfl⟩
  obtain ⟨E, hE⟩ : ∃ E, readEN s.data.toList = E := ⟨_, rfl⟩
  rw [hV, hE]
  have HV := Lib.hid hV
  have HE := Lib.hid hE
  have HC := Lib.hid hc
  clear hV hE
  go_enter Tryd.func33, Tryd.ntmps33
  have key : s.size = 1 ∨ (1 < s.size ∧ (((s[0]'h0).toNat : Int) == 48) = false ∧ ((s[0]'h0).toNat : Int) ≠ 48) := by
    rcases Nat.lt_or_ge 1 s.size with h | h
    · rcases hc with h' | h'
      · omega
      · exact .inr ⟨h, by simp; omega, by omega⟩
    · exact .inl (by omega)
  clear hc
  have H0 := Lib.hid h0
  rcases key with hk | ⟨hk, hk2, hk3⟩
  all_goals
    go_wp2_with fail
    clear hk
    try clear hk2 hk3
    go_loop [4] (fun v4 => ∃ i : Nat, i ≤ s.size ∧ v4 = .int .i64 (i : Int) ∧ Hid (∀ j (hj : j < s.size), j < i → 48 ≤ (s[j]'hj).toNat ∧ (s[j]'hj).toNat ≤ 57)) (fun v4 => s.size - (intOf v4).toNat)
    case atStart => exact ⟨0, Nat.zero_le _, rfl, Lib.hid fun j _ hj => absurd hj (Nat.not_lt_zero _)⟩
    case round =>
      obtain ⟨i, hi, rfl, HD⟩ := hrel
      by_cases hlt : i < s.size
      · by_cases hd : 48 ≤ (s[i]'hlt).toNat ∧ (s[i]'hlt).toNat ≤ 57
        · have HDD := Lib.hid hd
          obtain ⟨b1, b2⟩ := hd
          have hi1 : (48 : Int) ≤ ((s[i]'hlt).toNat : Int) := by omega
          have hi2 : ((s[i]'hlt).toNat : Int) ≤ 57 := by omega
          clear b1 b2
          go_wp2_with fail
          go_round
          case rel => exact ⟨i + 1, hlt, by go_num, Lib.hid fun j hj hji => by
            rcases Nat.lt_or_ge j i with h | h
            · exact HD.out j hj h
            · obtain rfl : j = i := by omega
              exact HDD.out⟩
          case measure => simp [intOf]; omega
        · have hbad : ¬ okT s.data.toList := fun h => hd (by
            have h1 := h.2.2.get i (by simpa using hlt)
            rw [byte_list s i hlt] at h1
            exact h1)
          have hEV := readEN_bad hbad
          have hVV := readVN_bad hbad
          rw [HV.out] at hVV
          rw [HE.out] at hEV
          subst hEV hVV
          clear hbad
          have hdd : ((s[i]'hlt).toNat : Int) < 48 ∨ (57 : Int) < ((s[i]'hlt).toNat : Int) := by omega
          clear hd
          rcases hdd with hdd | hdd
          all_goals
            go_wp2_with fail
            go_ret2
            exact ⟨_, rfl, by rw [limbs_zero]; exact World.ownsRow_nil _ _ _ _, Below.refl _ _⟩
      · have hok : okT s.data.toList := by
          refine ⟨by rw [← Lib.size_eq]; exact H0.out, fun h => ?_, DigL.of_get fun j hj => ?_⟩
          · rcases HC.out with h' | h'
            · have := h.1; rw [← Lib.size_eq] at this; omega
            · apply h'
              have := h.2
              rw [← byte_list s 0 h0]
              rw [List.getD, List.getElem?_eq_getElem (by rw [← Lib.size_eq]; exact h0)] at this
              exact this
          · have hj' : j < s.size := by simpa using hj
            have := HD.out j hj' (by omega)
            rw [← byte_list s j hj'] at this
            exact this
        have hEV := readEN_ok hok
        have hVV := readVN_ok hok
        rw [HV.out] at hVV
        rw [HE.out] at hEV
        subst hEV hVV
        have HOK := Lib.hid hok
        clear hok HD
        go_wp2_with fail
        clear hlt hi
        go_loopw [5, 6] (fun v5 v6 wr => ∃ (k : Nat) (xa : Option Addr) (xc xn : Nat), Hid (k ≤ s.size) ∧ v6 = .int .i64 (k : Int) ∧ v5 = .slice xa xn xc ∧ Hid (OwnL wr w.heap.size (.slice xa xn xc) (limbs (decV (s.data.toList.take k)))) ∧ Hid (Below w.heap.size w wr)) (fun _ v6 _ => s.size - (intOf v6).toNat)
        case atStart => exact ⟨0, none, 0, 0, Lib.hid (Nat.zero_le _), rfl, rfl, Lib.hid (by rw [List.take_zero, decV_nil, limbs_zero]; exact World.ownsRow_nil _ _ _ _), Lib.hid (Below.refl _ _)⟩
        case round =>
          obtain ⟨k, xa, xc, xn, hk, rfl, rfl, hO, hB⟩ := hrel
          by_cases hlt : k < s.size
          · have hd := HOK.out.2.2.get k (by rw [← Lib.size_eq]; exact hlt)
            rw [byte_list s k hlt] at hd
            obtain ⟨d, hde⟩ : ∃ d, (s[k]'hlt).toNat - 48 = d := ⟨_, rfl⟩
            have hd9 : d < 10 := by omega
            have hdI : ((s[k]'hlt).toNat : Int) - 48 = (d : Int) := by omega
            have f1 : IntKind.u8.wrap (((s[k]'hlt).toNat : Int) - 48) = (d : Int) := by rw [IntKind.wrap_u8]; omega
            have f2 : IntKind.u64.wrap (d : Int) = (d : Int) := by rw [IntKind.wrap_u64]; omega
            obtain ⟨n2, n3, hn2, hn3, HS⟩ := readr_step (decV (s.data.toList.take k)) d xa xn xc wr w.heap.size hO.out s.data.toList.length (by rw [← Lib.size_eq]; exact hs) (read_small s.data.toList k HOK.out.2.2) hd9
            obtain ⟨hM, hD⟩ := HS.out
            have hsz : w.heap.size ≤ wr.heap.size := hB.out.size
            have HDE := Lib.hid hde
            clear hn2 hn3 hde hd hd9 hdI
            go_wp2_with fail
            go_region_held3 (fun wx => Below wr.heap.size wr wx) (repeat' (first | exact Below.refl _ _ | assumption | refine below_alloc ?_ _ | refine Below.drew ?_)) (first
              | (go_at_call 25; (with_reducible refine (hM _ _ (by assumption) (by repeat' (first | assumption | exact cell_newg (by first | rfl | (simp; done)) | refine cell_more _ ?_ | refine cell_drew ?_ | refine hk' _ _ ?_))).mono ?_); rintro e w' ⟨qa, qc, rfl, hq, hb⟩; have hB' := below_step (w0 := wr) (by assumption) hb; have hk' := cell_keep hb; clear hb)
              | (go_at_call 19; (with_reducible refine (hD _ _ _ _ (Nat.le_trans hsz (Below.size (by assumption))) (by repeat' (first | assumption | refine harr_more _ ?_ | refine harr_drew ?_)) (by repeat' (first | assumption | exact cell_newg (by first | rfl | (simp; done)) | refine cell_more _ ?_ | refine cell_drew ?_ | refine hk' _ _ ?_))).mono ?_); rintro e w'' ⟨va, vc, rfl, hO2, hb⟩; have hB2 := Lib.hid (below_step (w0 := wr) (by assumption) hb); clear hb))
            all_goals go_wp2_with fail
            all_goals go_roundw
            all_goals first
              | (show _ < _; simp [intOf]; omega)
              | (refine ⟨k + 1, va, vc, n3, Lib.hid hlt, by go_num, rfl, Lib.hid ?_, Lib.hid (below_step hB.out hB2.out)⟩
                 rw [decV_take s.data.toList k (by rw [← Lib.size_eq]; exact hlt), read_at s k hlt, HDE.out]
                 exact hO2.out)
          · obtain rfl : k = s.size := by have := hk.out; omega
            go_wp2_with fail
            go_ret2
            refine ⟨_, rfl, ?_, hB.out⟩
            have := hO.out
            rw [List.take_of_length_le (by rw [← Lib.size_eq]; exact Nat.le_refl _)] at this
            exact this
theorem rread02_any (s : ByteArray) (w : World) (hs : s.size ≤ 1200) :
    Calls Tryd.prog 33 #[.string s] w fun e w' => ∃ v, e = .returned (.tuple #[v, .int .i64 (readEN s.data.toList)]) ∧ OwnL w' w.heap.size v (limbs (readVN s.data.toList)) ∧ Below w.heap.size w w' := by
  by_cases hb : s.size = 0 ∨ ∃ h : 0 < s.size, 1 < s.size ∧ s.size ≤ 1200 ∧ (s[0]'h).toNat = 48
  · refine (rread_bad s w hb).mono ?_
    rintro e w' ⟨rfl, rfl⟩
    have hn : ¬ okT s.data.toList := by
      rintro ⟨h1, h2, _⟩
      rcases hb with h | ⟨h, h3, _, h4⟩
      · rw [← Lib.size_eq] at h1; omega
      · apply h2
        refine ⟨by rw [← Lib.size_eq]; exact h3, ?_⟩
        rw [← byte_list s 0 h] at h4
        rw [List.getD, List.getElem?_eq_getElem (by rw [← Lib.size_eq]; exact h)]
        exact h4
    rw [readEN_bad hn, readVN_bad hn, limbs_zero]
    exact ⟨_, rfl, World.ownsRow_nil _ _ _ _, Below.refl _ _⟩
  · have h0 : 0 < s.size := by omega
    exact rread_loop s w h0 hs (by
      by_cases h1 : s.size = 1
      · exact .inl h1
      · exact .inr fun h => hb (.inr ⟨h0, by omega, hs, h⟩))
end Go.Proofs.YtjfjkabmpiebpaaDoor
