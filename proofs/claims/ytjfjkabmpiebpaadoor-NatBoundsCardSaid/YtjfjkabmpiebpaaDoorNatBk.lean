/-
  nat.Read.
-/
import Derived.Test.YtjfjkabmpiebpaaDoorNatBj
set_option linter.unusedSimpArgs false
set_option linter.unusedVariables false
namespace Go.Proofs.YtjfjkabmpiebpaaDoor
open Go.RowKit Go.Plumb

set_option maxRecDepth 20000 in
set_option maxHeartbeats 1000000 in
theorem Read_bad (s : ByteArray) (w : World) (hs : s.size ≤ 1200) (hb : ¬ okT s.data.toList) :
    Calls Tryd.prog 32 #[.string s] w fun e w' => e = .returned (.tuple #[.slice none 0 0, .int .i64 2]) ∧ Below w.heap.size w w' := by
  have hC := containsFunc_any s w (by omega)
  have HB := Lib.hid hb
  clear hb
  go_enter Tryd.func32, Tryd.ntmps32
  go_wp2_with fail
  refine hC.mono ?_
  rintro e w1 ⟨b, rfl, hbd, hbl⟩
  have HBL := Lib.hid hbl
  have HBD := Lib.hid hbd
  clear hC hbl hbd
  have key : s.size = 0 ∨ (0 < s.size ∧ b = true) ∨ (∃ h : 0 < s.size, b = false ∧ 1 < s.size ∧ (s[0]'h).toNat = 48) := by
    by_cases h0 : s.size = 0
    · exact .inl h0
    · have h0' : 0 < s.size := by omega
      cases b with
      | true => exact .inr (.inl ⟨h0', rfl⟩)
      | false =>
        refine .inr (.inr ⟨h0', rfl, ?_⟩)
        apply Classical.byContradiction
        intro h
        apply HB.out
        refine ⟨by rw [← Lib.size_eq]; exact h0', fun hh => h ?_, HBD.out.1 rfl⟩
        rw [← Lib.size_eq] at hh
        rw [read_at s 0 h0'] at hh
        exact hh
  rcases key with h | ⟨h, rfl⟩ | ⟨h, rfl, h1, h2⟩
  · go_wp2_with fail
    go_ret2
    exact ⟨rfl, HBL.out⟩
  · go_wp2_with fail
    go_ret2
    exact ⟨rfl, HBL.out⟩
  · have h3' : (((s[0]'h).toNat : Int) == 48) = true := by simp; omega
    have e3 : ((s[0]'h).toNat : Int) = 48 := by omega
    clear h2
    go_wp2_with fail
    go_ret2
    exact ⟨rfl, HBL.out⟩

theorem rune_facts (X Y r d : Nat) (hX : X < Y) (hY : Y ≤ 10 ^ 18) (hr : 48 ≤ r ∧ r ≤ 57) (hd : r - 48 = d) :
    IntKind.u64.wrap (10 * (X : Int)) = 10 * (X : Int) ∧ IntKind.i32.wrap ((r : Int) - 48) = (d : Int) ∧ IntKind.u64.wrap (d : Int) = (d : Int) ∧ IntKind.u64.wrap (10 * (X : Int) + (d : Int)) = ((10 * X + d : Nat) : Int) ∧ IntKind.u64.wrap (10 * (Y : Int)) = ((10 * Y : Nat) : Int) := by
  have e : (10 : Nat) ^ 18 = 1000000000000000000 := by decide
  rw [e] at hY
  refine ⟨by rw [IntKind.wrap_u64]; omega, ?_, by rw [IntKind.wrap_u64]; omega, by rw [IntKind.wrap_u64]; omega, by rw [IntKind.wrap_u64]; omega⟩
  have : (r : Int) - 48 = (d : Int) := by omega
  rw [this, IntKind.wrap_i32]
  omega
theorem run_makeN (n : Nat) (h1 : n ≤ 100000) (w : World) :
    Sem.run Tryd.prog ((Instr.makeSlice 22 (.int .i64 (n : Int)) (.int .i64 (n : Int)))) w = .ok (.slice (some ⟨w.heap.size, 0, none⟩) n n) (w.alloc (.cells (zerosA n) 36)) := by
  have := run_makeI (n : Int) (by omega) (by omega) w
  rw [Int.toNat_natCast] at this
  exact this
theorem mulq_own {w4 w5 : World} {n cy y V g cap B : Nat} {os lv : List Nat} (hos : os.length = n) (hlv : lv.length = n) (hV : valL lv = V) (hcy : cy < 18446744073709551616) (hlo : Limbs os) (he : valL os + 18446744073709551616 ^ n * cy = valL (((List.replicate (n + 1) 0).drop 0).take n) + valL lv * y)
    (ho : OwnL w5 B (.slice (some ⟨g, 0, none⟩) (n + 1) cap) (patch (List.replicate (n + 1) 0) 0 os)) (hg : w4.grownBy w5 (some g)) (hBg : B ≤ g) (hBw : B ≤ w4.heap.size) :
    w5.cell? ⟨g, n, none⟩ = some (.int .u64 0) ∧ w5.frozen? ⟨g, n, none⟩ = false ∧
      Hid (∃ lp : List Nat, lp.length = n + 1 ∧ valL lp = y * V ∧ Limbs lp ∧ OwnL (w5.setCell ⟨g, n, none⟩ (.int .u64 (cy : Int))) B (.slice (some ⟨g, 0, none⟩) (n + 1) cap) lp ∧
        Below B w4 (w5.setCell ⟨g, n, none⟩ (.int .u64 (cy : Int)))) := by
  have hl : (patch (List.replicate (n + 1) 0) 0 os).length = n + 1 := by rw [patch_length _ _ _ (by simp; omega)]; simp
  refine ⟨?_, OwnL.thaw ho n, Lib.hid ⟨(patch (List.replicate (n + 1) 0) 0 os).set n cy, by simp [hl], mulp_value os lv n cy y V hos hlv hV he, (patch_limbs (Limbs.replicate _) hlo 0).set _ _ hcy, OwnL.store ho n cy _ rfl, ?_⟩⟩
  · refine OwnL.cell ho n 0 ?_
    have h := patch_at (List.replicate (n + 1) 0) os 0 (by simp; omega)
    rw [hos, Nat.zero_add] at h
    rw [h]; simp
  · exact ((Below.refl _ w4).grown hg hBw (by intro q hq; cases hq; exact hBg)).setCell hBg _
theorem cell_one_at {W : World} {g : Nat} {v : Value} {t : TypeId} (h : g = W.heap.size) : ∀ (j : Nat) (u : Value), [v][j]? = some u → (W.alloc (.cells #[v] t)).cell? (Addr.add ⟨g, 0, none⟩ j) = some u := by
  subst h; exact cell_one_new _ _ _
/-- What the round still does, from the new row on: in words of numbers. -/
theorem readn_facts (A Y xn n2 g cap : Nat) (xa : Option Addr) (xc : Nat) (w w3 : World) (hn2 : n2 = (limbs (A * Y)).length) (hbw : Below w.heap.size w w3) (hBg : w.heap.size ≤ g) (hA : Arr w xa xc (limbs A)) (hxn : xn = (limbs A).length) (hxl : xn ≤ 1300) (hY : Y ≤ 10000000000000000000)
    (hO : OwnL w3 w.heap.size (.slice (some ⟨g, 0, none⟩) (xn + 1) cap) (List.replicate (xn + 1) 0)) :
    Calls Tryd.prog 58 #[.slice (some ⟨g, 0, none⟩) (xn + 1) cap, .slice xa xn xc, .int .u64 (Y : Int)] w3 fun e w5 => ∃ cy : Nat, e = .returned (.int .u64 (cy : Int)) ∧ w5.cell? ⟨g, xn, none⟩ = some (.int .u64 0) ∧ w5.frozen? ⟨g, xn, none⟩ = false ∧
      Calls Tryd.prog 60 #[.slice (some ⟨g, 0, none⟩) (xn + 1) cap] (w5.setCell ⟨g, xn, none⟩ (.int .u64 (cy : Int))) (fun e w6 => e = .returned (.slice (some ⟨g, 0, none⟩) n2 cap) ∧ w5.setCell ⟨g, xn, none⟩ (.int .u64 (cy : Int)) = w6) ∧
      Hid (Below w.heap.size w (w5.setCell ⟨g, xn, none⟩ (.int .u64 (cy : Int))) ∧ Arr (w5.setCell ⟨g, xn, none⟩ (.int .u64 (cy : Int))) (some ⟨g, 0, none⟩) cap (limbs (A * Y))) := by
  subst hxn hn2
  have hm := mul_any w.heap.size g 0 ((limbs A).length + 1) cap cap xa xc Y (limbs A) (List.replicate ((limbs A).length + 1) 0) w3 (hA.below hbw) (by rw [List.length_replicate]; exact hO) (fun b off e h0 => by
    obtain ⟨b', off', e', hc⟩ := hA.2.2.2 0 h0
    rw [e] at e'
    cases e'
    have := cell_lt hc
    simp at this
    omega) (by simp) (by omega) (Limbs.replicate _) (by simp; omega) (by omega)
  refine hm.mono ?_
  rintro e w5 ⟨os, cy, rfl, hcy, hos, hlo, he, ho5, hg5⟩
  rw [List.length_replicate] at ho5
  obtain ⟨h1, h2, h3⟩ := mulq_own hos rfl (valL_limbs A) hcy hlo he ho5 hg5 hBg hbw.size
  obtain ⟨lp, hlp, hvp, hlim, hop, hbp⟩ := h3.out
  have hAp := OwnL.arr' hop hlim
  have hT := trim_any _ _ _ _ hAp
  rw [hlp, hvp, Nat.mul_comm] at hT
  have hN := hAp.norm
  rw [hvp, Nat.mul_comm] at hN
  exact ⟨cy, rfl, h1, h2, hT, Lib.hid ⟨hbw.trans hbp, hN⟩⟩
theorem readadd_any (P X n2 n3 n4 : Nat) (a b : Option Addr) (c d : Nat) (w : World) (hA : Arr w a c (limbs P)) (hB : Arr w b d (limbs X)) (h2 : n2 = (limbs P).length) (h3 : n3 = (limbs X).length) (h4 : n4 = (limbs (P + X)).length) (l2 : n2 ≤ 4096) (l3 : n3 ≤ 4096) (l4 : n4 ≤ 4096) :
    Calls Tryd.prog 17 #[.slice a n2 c, .slice b n3 d] w fun e w' => ∃ a' c', e = .returned (.tuple #[.slice a' n4 c', .int .i64 0]) ∧ Hid (Arr w' a' c' (limbs (P + X))) ∧ Below w.heap.size w w' := by
  have h := Add_ok a b c d (limbs P) (limbs X) w hA hB (by rw [valL_limbs]; omega) (by rw [valL_limbs]; omega) (by rw [valL_limbs, valL_limbs]; omega)
  rw [valL_limbs, valL_limbs] at h
  subst h2 h3 h4
  exact h
theorem extract_take (l : List UInt8) (m : Nat) : (⟨l.toArray⟩ : ByteArray).extract 0 m = ⟨(l.take m).toArray⟩ := by
  rw [Lib.extract_mk]
  rfl
theorem extract_drop (l : List UInt8) (m n : Nat) (h : l.length = n) : (⟨l.toArray⟩ : ByteArray).extract m n = ⟨(l.drop m).toArray⟩ := by
  rw [Lib.extract_mk, List.take_of_length_le]; simp [h]
set_option maxRecDepth 20000 in
set_option maxHeartbeats 1000000 in
theorem Read_good (s : ByteArray) (w : World) (hs : s.size ≤ 1200) (hok : okT s.data.toList) :
    Calls Tryd.prog 32 #[.string s] w fun e w' => ∃ a c, e = .returned (.tuple #[.slice a (limbs (decV s.data.toList)).length c, .int .i64 0]) ∧ Arr w' a c (limbs (decV s.data.toList)) ∧ Below w.heap.size w w' := by
  obtain ⟨i0, hi, hz0, hz1, hz2⟩ := info_parts info_u64
  have hC := containsFunc_any s w (by omega)
  have h0 : 0 < s.size := by rw [Lib.size_eq]; exact hok.1
  have key : s.size = 1 ∨ (1 < s.size ∧ (((s[0]'h0).toNat : Int) == 48) = false ∧ ((s[0]'h0).toNat : Int) ≠ 48) := by
    rcases Nat.lt_or_ge 1 s.size with h | h
    · have h' := hok.2.1
      rw [read_at s 0 h0, ← Lib.size_eq] at h'
      exact .inr ⟨h, by simp; omega, by omega⟩
    · exact .inl (by omega)
  obtain ⟨l, hl⟩ : ∃ l, s.data.toList = l := ⟨_, rfl⟩
  have hsl : s = ⟨l.toArray⟩ := by rw [← hl]
  have HDL : Hid (DigL l ∧ l.length = s.size ∧ l.length ≤ 1200 ∧ s = ⟨l.toArray⟩) := Lib.hid ⟨by rw [← hl]; exact hok.2.2, by rw [← hl, ← Lib.size_eq], by rw [← hl, ← Lib.size_eq]; exact hs, hsl⟩
  rw [hl] at hC ⊢
  clear hok hl hsl
  go_enter Tryd.func32, Tryd.ntmps32
  go_wp2_with fail
  refine hC.mono ?_
  rintro e w1 ⟨b, rfl, hbd, hbl⟩
  obtain rfl : b = false := hbd.2 HDL.out.1
  have HBL := Lib.hid hbl
  clear hC hbl hbd
  rcases key with hk | ⟨hk, hk2, hk3⟩
  all_goals
    go_wp2_with fail
    clear hk
    try clear hk2 hk3
    go_loopw [0, 5] (fun v0 v5 wr => ∃ (k : Nat) (t : ByteArray) (xa : Option Addr) (xc xn : Nat), v0 = .string t ∧ v5 = .slice xa xn xc ∧ Hid (k ≤ l.length ∧ t.data.toList = l.drop k) ∧ Hid (xn = (limbs (decV (l.take k))).length ∧ Arr wr xa xc (limbs (decV (l.take k)))) ∧ Hid (Below w.heap.size w wr)) (fun v0 _ _ => Lib.strSize v0)
    case atStart => exact ⟨0, s, none, 0, 0, rfl, rfl, Lib.hid ⟨Nat.zero_le _, by rw [HDL.out.2.2.2]; rfl⟩, Lib.hid ⟨by rw [List.take_zero, decV_nil, limbs_zero]; rfl, by rw [List.take_zero, decV_nil, limbs_zero]; exact Arr.nil _ _ _ (by unfold maxLen; omega)⟩, HBL⟩
    case round =>
      obtain ⟨k, t, xa, xc, xn, rfl, rfl, hT, hA, hB⟩ := hrel
      have hts : t.size = l.length - k := by rw [Lib.size_eq, hT.out.2, List.length_drop]
      by_cases hz : t.size = 0
      · have hkl : k = l.length := by have := hT.out.1; omega
        have HK : Hid (k = l.length) := Lib.hid hkl
        clear hts hkl
        have hz2 : ¬ 0 < t.size := by omega
        go_wp2_with fail
        go_ret2
        have hA2 := hA.out
        rw [HK.out, List.take_length] at hA2
        exact ⟨xa, xc, by rw [hA2.1]; rfl, hA2.2, hB.out⟩
      · have hp : 0 < t.size := by omega
        obtain ⟨m, hm, hm19, hmt⟩ : ∃ m, 0 < m ∧ m ≤ 19 ∧ min 19 t.size = m := ⟨min 19 t.size, by omega, by omega, rfl⟩
        obtain ⟨u, hu⟩ : ∃ u : ByteArray, t.extract 0 m = u := ⟨_, rfl⟩
        obtain ⟨t2, ht2⟩ : ∃ u : ByteArray, t.extract m t.size = u := ⟨_, rfl⟩
        have hmle : m ≤ t.size := by omega
        have hmI : min (19 : Int) (t.size : Int) = (m : Int) := by omega
        have hmc : (m : Int) ≤ (t.size : Int) := by omega
        clear hts
        go_wp2_with fail
        have HU : Hid (u.data.toList = (l.drop k).take m ∧ u.size = m ∧ DigL u.data.toList) := by
          have e1 : t = ⟨(l.drop k).toArray⟩ := by rw [← hT.out.2]
          have e2 : u.data.toList = (l.drop k).take m := by rw [← hu, e1, extract_take]
          refine Lib.hid ⟨e2, ?_, ?_⟩
          · rw [Lib.size_eq, e2, List.length_take, ← hT.out.2, ← Lib.size_eq]; omega
          · rw [e2]; exact fun b hb => HDL.out.1 b (List.mem_of_mem_drop (List.mem_of_mem_take hb))
        have HT2 : Hid (t2.data.toList = l.drop (k + m)) := by
          have e1 : t = ⟨(l.drop k).toArray⟩ := by rw [← hT.out.2]
          have e3 : t2 = ⟨((l.drop k).drop m).toArray⟩ := by rw [← ht2, Lib.size_eq, e1]; exact extract_drop (l.drop k) m _ rfl
          rw [e3, List.drop_drop]
          exact Lib.hid rfl
        have HM : Hid (0 < m ∧ m ≤ 19 ∧ m ≤ t.size ∧ t.size = l.length - k) := Lib.hid ⟨hm, hm19, hmle, by rw [Lib.size_eq, hT.out.2, List.length_drop]⟩
        have hus := HU.out.2.1
        clear hm hmt hmI hm19
        go_loopw [7, 8] (fun v7 v8 wx => ∃ (pos X Y : Nat), v7 = .int .u64 (X : Int) ∧ v8 = .int .u64 (Y : Int) ∧ wx = wr.iter u pos ∧ Hid (pos ≤ m ∧ X = decV (u.data.toList.take pos) ∧ Y = 10 ^ pos)) (fun _ _ wx => m - wx.iterPos wr.heap.size)
        case atStart => exact ⟨0, 0, 1, rfl, rfl, rfl, Lib.hid ⟨Nat.zero_le _, by rw [List.take_zero, decV_nil], rfl⟩⟩
        case round =>
          obtain ⟨pos, X, Y, rfl, rfl, rfl, hR⟩ := hrel
          by_cases hpm : pos < m
          · have hp' : pos < u.size := by omega
            have hnx := fun ty => run_next_any (P := Tryd.prog) wr u pos ty hp'
            have hdd := HU.out.2.2.get pos (by rw [← Lib.size_eq]; exact hp')
            rw [byte_list u pos hp'] at hdd
            rw [digit_rune u pos hp' hdd] at hnx
            obtain ⟨r, hr⟩ : ∃ r, (u[pos]'hp').toNat = r := ⟨_, rfl⟩
            simp only [hr] at hnx
            rw [hr] at hdd
            obtain ⟨d, hd⟩ : ∃ d, r - 48 = d := ⟨_, rfl⟩
            have hX := decV_lt (u.data.toList.take pos) (HU.out.2.2.take pos)
            have hlen : (u.data.toList.take pos).length = pos := by rw [List.length_take, ← Lib.size_eq]; omega
            rw [hlen, ← hR.out.2.1] at hX
            have hpow : (10 : Nat) ^ pos ≤ 10 ^ 18 := Nat.pow_le_pow_right (by decide) (by have := HM.out.2.1; omega)
            have hY := hR.out.2.2
            have hXY := rune_facts X Y r d (by rw [hY]; exact hX) (by rw [hY]; exact hpow) hdd hd
            obtain ⟨f1, f2, f3, f4, f5⟩ := hXY
            have HST : Hid (pos + 1 ≤ m ∧ 10 * X + d = decV (u.data.toList.take (pos + 1)) ∧ 10 * Y = 10 ^ (pos + 1)) := Lib.hid ⟨hpm, by rw [decV_take _ pos (by rw [← Lib.size_eq]; exact hp'), read_at u pos hp', hr, hd, hR.out.2.1], by rw [Nat.pow_succ, hY, Nat.mul_comm]⟩
            clear hdd hr hd hX hlen hpow hY hR
            go_wp2_with fail
            go_roundw
            case rel => exact ⟨pos + 1, 10 * X + d, 10 * Y, by first | rfl | go_num, by first | rfl | go_num, rfl, HST⟩
            case measure => rw [World.iterPos_iter, World.iterPos_iter]; omega
          · have hpe : pos = m := by have := hR.out.1; omega
            have HV1 : Hid (X = decV ((l.drop k).take m) ∧ Y = 10 ^ m) := Lib.hid ⟨by rw [hR.out.2.1, hpe, HU.out.1, List.take_take, Nat.min_self], by rw [hR.out.2.2, hpe]⟩
            have hnx := fun ty => run_next_end (P := Tryd.prog) wr u pos ty (by omega)
            have HBx : Hid (Below wr.heap.size wr (wr.iter u pos)) := Lib.hid (below_iter (Below.refl _ _) u pos)
            have hxn : xn ≤ 1300 := by rw [hA.out.1]; exact Nat.le_trans (ten_limbs _ _ (read_small l k HDL.out.1)) (by have := HDL.out.2.2.1; omega)
            have hmk := run_makeN xn (by omega) (wr.iter u pos)
            have hzo := World.ownsRow.alloc (owns_zeros (wr.iter u pos) (wr.iter u pos).heap.size xn (Nat.le_refl _) (by omega)) (.cells #[.int .u64 0] 36)
            have hxl : (limbs (decV (l.take k))).length = xn := hA.out.1.symm
            have HXN := Lib.hid (And.intro hxn hxl)
            clear hR hpe hpm hus hxn hxl
            go_wp2_with (at_builtin; refine wpList_append_own _ rfl _ _ 22 rfl (wr.iter u pos).heap.size 36 i0 (.int .u64 0) 1 8 Tryd.underlying22 hi hz0 hz1 hz2 rfl (by decide) _ xn ((List.replicate xn 0).map limbV) rfl hzo ⟨(wr.iter u pos).heap.size + 1, 0, none⟩ 1 1 [limbV 0] rfl rfl ?c1 ?c2 ?c3 ?c4 ?c5 ?_)
            case c1 => exact cell_one_at (by simp)
            case c2 => intro u hu; simp at hu; subst hu; rfl
            case c3 => have := HXN.out.1; unfold maxLen; omega
            case c4 => have := HXN.out.1; omega
            case c5 => simp; omega
            · intro v' w3 hown' hgrow _
              obtain ⟨g, cap, rfl⟩ := ownsRow_succ hown'
              have hO3 : OwnL w3 (wr.iter u pos).heap.size (.slice (some ⟨g, 0, none⟩) (xn + 1) cap) (List.replicate (xn + 1) 0) := by
                unfold OwnL
                rw [List.length_replicate, List.map_replicate, List.replicate_succ']
                simpa using hown'
              have hB3 : Below (wr.iter u pos).heap.size (wr.iter u pos) w3 := (((Below.refl _ _).alloc (Nat.le_refl _) _).alloc (by simp) _).grown hgrow (by simp; omega) (fun q hq => by simp [Value.ownBlock] at hq; omega)
              have hBg := (World.ownsRow.lt (show w3.ownsRow (wr.iter u pos).heap.size 36 1 (.slice (some ⟨g, 0, none⟩) (xn + 1) cap) (List.replicate (xn + 1) 0).length ((List.replicate (xn + 1) 0).map limbV) from hO3) g (by simp [Value.ownBlock])).1
              obtain ⟨A, hAe⟩ : ∃ A, decV (l.take k) = A := ⟨_, rfl⟩
              obtain ⟨n2, hn2⟩ : ∃ n, (limbs (A * Y)).length = n := ⟨_, rfl⟩
              obtain ⟨n3, hn3⟩ : ∃ n, (limbs X).length = n := ⟨_, rfl⟩
              obtain ⟨n4, hn4⟩ : ∃ n, (limbs (A * Y + X)).length = n := ⟨_, rfl⟩
              have hNX : Hid (A * Y + X = decV (l.take (k + m))) := by
                rw [← hAe, HV1.out.1, HV1.out.2, List.take_add, decV_append]
                have e : (List.take m (List.drop k l)).length = m := by rw [List.length_take, List.length_drop]; have := HM.out; have := hT.out.1; omega
                rw [e]
                exact Lib.hid rfl
              have hb1 : A * Y + X < 10 ^ l.length := by rw [hNX.out]; exact read_small l _ HDL.out.1
              have hl4 : n4 ≤ 1300 := by rw [← hn4]; exact Nat.le_trans (ten_limbs _ _ hb1) (by have := HDL.out.2.2.1; omega)
              have hl2 : n2 ≤ 1300 := by rw [← hn2]; exact Nat.le_trans (length_mono (Nat.le_add_right _ X)) (by rw [hn4]; exact hl4)
              have hl3 : n3 ≤ 1300 := by rw [← hn3]; exact Nat.le_trans (length_mono (Nat.le_add_left X _)) (by rw [hn4]; exact hl4)
              have hY19 : Y ≤ 10000000000000000000 := by rw [HV1.out.2]; exact Nat.le_trans (Nat.pow_le_pow_right (by decide) HM.out.2.1) (by decide)
              have hX19 : X < 18446744073709551616 := by
                have h1 : X < 10 ^ m := by
                  rw [HV1.out.1]
                  have := decV_lt ((l.drop k).take m) (fun b hb => HDL.out.1 b (List.mem_of_mem_drop (List.mem_of_mem_take hb)))
                  refine Nat.lt_of_lt_of_le this (Nat.pow_le_pow_right (by decide) ?_)
                  rw [List.length_take]; omega
                rw [← HV1.out.2] at h1
                omega
              have hA3 := (hA.out.2).below HBx.out
              rw [hAe] at hA3
              have hMl := readn_facts A Y xn n2 g cap xa xc (wr.iter u pos) w3 hn2.symm hB3 hBg hA3 (by rw [← hAe]; exact hA.out.1) HXN.out.1 hY19 hO3
              have HOf : Hid (∀ wz, Calls Tryd.prog 47 #[.int .u64 (X : Int)] wz fun e w' => ∃ a c, e = .returned (.slice a n3 c) ∧ Arr w' a c (limbs X) ∧ Below wz.heap.size wz w') := Lib.hid fun wz => by rw [← hn3]; exact nof_any X wz hX19
              have HAd : Hid (∀ (b : Option Addr) (d : Nat) (wz : World), Arr wz (some ⟨g, 0, none⟩) cap (limbs (A * Y)) → Arr wz b d (limbs X) → Calls Tryd.prog 17 #[.slice (some ⟨g, 0, none⟩) n2 cap, .slice b n3 d] wz fun e w' => ∃ a' c', e = .returned (.tuple #[.slice a' n4 c', .int .i64 0]) ∧ Hid (Arr w' a' c' (limbs (A * Y + X))) ∧ Below wz.heap.size wz w') :=
                Lib.hid fun b d wz h1 h2 => readadd_any (A * Y) X n2 n3 n4 _ b cap d wz h1 h2 hn2.symm hn3.symm hn4.symm (by omega) (by omega) (by omega)
              have HN4 := Lib.hid hn4
              have HB9 : Hid (Below wr.heap.size wr (wr.iter u pos)) := HBx
              clear hown' hgrow hO3 hB3 hBg hAe hn2 hn3 hn4 hb1 hl4 hl2 hl3 hY19 hX19 hA3 hzo hmk hnx HBx
              obtain ⟨wx, hwx⟩ : ∃ wx, wr.iter u pos = wx := ⟨_, rfl⟩
              rw [hwx] at hMl HB9
              clear hwx
              go_wp2_with fail
              refine hMl.mono ?_
              rintro e w5 ⟨cy, rfl, hc5, hf5, hT5, hA5⟩
              clear hMl
              go_wp2_with fail
              refine hT5.mono ?_
              rintro e w6 ⟨rfl, rfl⟩
              obtain ⟨w6, hw6⟩ : ∃ w6, w5.setCell ⟨g, xn, none⟩ (.int .u64 (cy : Int)) = w6 := ⟨_, rfl⟩
              rw [hw6] at hA5 ⊢
              clear hT5 hc5 hf5 hw6
              go_wp2_with fail
              refine (HOf.out w6).mono ?_
              rintro e w7 ⟨ao, co, rfl, hAo, hb7⟩
              have hAd := HAd.out ao co w7 (hA5.out.2.below hb7) hAo
              have HB7 := Lib.hid (hA5.out.1.trans (hb7.mono hA5.out.1.size))
              clear hAo hb7
              go_wp2_with fail
              refine hAd.mono ?_
              rintro e w8 ⟨a8, c8, rfl, hA8, hb8⟩
              have HB8 := Lib.hid (HB7.out.trans (hb8.mono HB7.out.size))
              clear hAd hb8
              go_wp2_with fail
              go_quiet (fail)
              all_goals go_wp2_with fail
              refine ⟨⟨k + m, t2, a8, c8, n4, rfl, rfl, Lib.hid ⟨by have := HM.out; have := hT.out.1; omega, HT2.out⟩, Lib.hid ⟨by rw [← hNX.out, HN4.out], ?_⟩, Lib.hid (below_drewN (below_step hB.out (below_step HB9.out HB8.out)) _)⟩, ?_⟩
              · rw [← hNX.out]
                exact hA8.out.below (below_drewN (Below.refl _ _) _)
              · show t2.size < t.size
                rw [Lib.size_eq t2, HT2.out, List.length_drop]
                have := HM.out
                omega
theorem Read_any (s : ByteArray) (w : World) (hs : s.size ≤ 1200) :
    Calls Tryd.prog 32 #[.string s] w fun e w' => ∃ a c, e = .returned (.tuple #[.slice a (limbs (readVN s.data.toList)).length c, .int .i64 (readEN s.data.toList)]) ∧ Arr w' a c (limbs (readVN s.data.toList)) ∧ Below w.heap.size w w' := by
  by_cases h : okT s.data.toList
  · rw [readVN_ok h, readEN_ok h]
    exact Read_good s w hs h
  · rw [readVN_bad h, readEN_bad h, limbs_zero]
    refine (Read_bad s w hs h).mono ?_
    rintro e w' ⟨rfl, hb⟩
    exact ⟨none, 0, rfl, Arr.nil _ _ _ (by unfold maxLen; omega), hb⟩
end Go.Proofs.YtjfjkabmpiebpaaDoor
