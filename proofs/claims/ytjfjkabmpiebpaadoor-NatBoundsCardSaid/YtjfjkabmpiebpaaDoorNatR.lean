/-
  nat.div where the number is less than the divisor; what the division's rounds keep: plain laws and worlds.
-/
import Derived.Test.YtjfjkabmpiebpaaDoorNatO
import Derived.Lib.SliceRun
import Derived.Laws.CopyOwn
set_option linter.unusedSimpArgs false
set_option linter.unusedVariables false
namespace Go.Plumb
open Go.RowKit
theorem lenN_shift (B k : Nat) (h : B ≠ 0) : lenN (B * 2 ^ k) = lenN B + k := by
  have h1 := lt_lenN B
  have h2 := lenN_ge B h
  have h3 : lenN B ≠ 0 := by intro e; rw [e] at h1; simp at h1; exact h h1
  refine lenN_unique ?_ (.inr ?_)
  · rw [Nat.pow_add]; exact Nat.mul_lt_mul_of_pos_right h1 (Nat.two_pow_pos k)
  · rw [show lenN B + k - 1 = (lenN B - 1) + k by omega, Nat.pow_add]; exact Nat.mul_le_mul_right _ h2
/-- A divisor brought up: as many limbs, the top bit set. -/
theorem norm_top (B n k t : Nat) (h : B ≠ 0) (hn : (limbs B).length = n) (ht : (limbs B).getD (n - 1) 0 = t) (hk : k + lenN t = 64) : (limbs (B * 2 ^ k)).length = n ∧ 9223372036854775808 ≤ (limbs (B * 2 ^ k)).getD (n - 1) 0 := by
  have hp : 0 < n := by rw [← hn]; exact List.length_pos_iff.2 fun e => h ((limbs_nil_iff B).1 e)
  have hL := lenN_limbs B h
  rw [hn, ht] at hL
  have hV := lenN_shift B k h
  have hlen : lenN (B * 2 ^ k) = 64 * n := by omega
  have hV0 : B * 2 ^ k ≠ 0 := by
    intro e; rw [e] at hlen
    have : lenN 0 = 0 := rfl
    omega
  have h1 := lt_lenN (B * 2 ^ k)
  have h2 := lenN_ge (B * 2 ^ k) hV0
  rw [hlen] at h1 h2
  have hB : ∀ m : Nat, (18446744073709551616 : Nat) ^ m = 2 ^ (64 * m) := fun m => by rw [Nat.pow_mul]
  have hle : (limbs (B * 2 ^ k)).length ≤ n := length_limbs_le _ _ (by rw [hB]; exact h1)
  have hge : n ≤ (limbs (B * 2 ^ k)).length := by
    apply Nat.le_of_not_lt
    intro hlt
    have h3 := lt_pow_length (B * 2 ^ k)
    rw [hB] at h3
    have h4 := Nat.pow_le_pow_right (show 0 < 2 by decide) (show 64 * (limbs (B * 2 ^ k)).length ≤ 64 * n - 1 by omega)
    omega
  refine ⟨by omega, ?_⟩
  apply Nat.le_of_not_lt
  intro hlt
  have e := valL_take_succ (limbs (B * 2 ^ k)) (n - 1) (by omega)
  rw [show n - 1 + 1 = (limbs (B * 2 ^ k)).length by omega, List.take_length, valL_limbs] at e
  have h5 := valL_lt ((limbs_limbs (B * 2 ^ k)).take (n - 1))
  rw [List.length_take, Nat.min_eq_left (by omega)] at h5
  have e63 : (2 : Nat) ^ 63 = 9223372036854775808 := by decide
  have h6 := Nat.mul_le_mul_left (18446744073709551616 ^ (n - 1)) (show (limbs (B * 2 ^ k)).getD (n - 1) 0 + 1 ≤ 2 ^ 63 by omega)
  rw [hB, ← Nat.pow_add, show 64 * (n - 1) + 63 = 64 * n - 1 by omega, Nat.mul_add] at h6
  rw [hB] at e h5
  omega
theorem div_guess (lu lv : List Nat) (j n V x1 x0 y : Nat) (hu : Limbs lu) (hjn : j + n + 1 ≤ lu.length) (hp : 0 < n) (hvl : lv.length = n) (hV : valL lv = V) (h1 : lu.getD (j + n) 0 = x1) (h0 : lu.getD (j + n - 1) 0 = x0) (hy : lv.getD (n - 1) 0 = y) (hy0 : 0 < y) :
    valL ((lu.drop j).take (n + 1)) / V ≤ (x1 * 18446744073709551616 + x0) / y := by
  obtain ⟨m, rfl⟩ : ∃ m, n = m + 1 := ⟨n - 1, by omega⟩
  have h := guess_ge ((lu.drop j).take (m + 1 + 1)) lv m _ V ((hu.drop j).take _) (by simp; omega) hvl rfl hV (by rw [show m = m + 1 - 1 by omega, hy]; exact hy0)
  rw [getD_take _ _ _ (by omega), getD_take _ _ _ (by omega), getD_drop, getD_drop, h1, show j + m = j + (m + 1) - 1 by omega, h0, show lv.getD m 0 = y from by rw [← hy]; rfl] at h
  exact h
/-- What a round of the division leaves. -/
theorem div_step (lu lq : List Nat) (j n V Q : Nat) (r : List Nat) (hu : Limbs lu) (hV0 : 0 < V) (hjn : j + n + 1 ≤ lu.length) (hjq : j < lq.length) (hq0 : lq.getD j 0 = 0) (hV : V < 18446744073709551616 ^ n) (hd : valL (lu.drop (j + 1)) < V)
    (hQ : Q = valL ((lu.drop j).take (n + 1)) / V) (hr : valL r = valL ((lu.drop j).take (n + 1)) - Q * V) (hrl : r.length = n + 1) :
    valL ((patch lu j r).drop j) < V ∧ valL (lq.set j Q) * V + valL (patch lu j r) = valL lq * V + valL lu := by
  obtain ⟨hz, he, hlt⟩ := div_round lu j n V hu hjn hV hd
  have hdm := Nat.div_add_mod (valL ((lu.drop j).take (n + 1))) V
  have hm := Nat.mod_lt (valL ((lu.drop j).take (n + 1))) hV0
  rw [← hQ, Nat.mul_comm] at hdm
  have hrv : valL r = valL ((lu.drop j).take (n + 1)) % V := by omega
  refine ⟨?_, ?_⟩
  · have h0 := patch_drop lu j r (by omega)
    rw [hrl, show j + (n + 1) = j + n + 1 from rfl, hz, Nat.mul_zero, Nat.add_zero, hrv] at h0
    rw [h0]
    exact hm
  · have h1 := patch_value lu j r (by omega)
    rw [hrl] at h1
    have h2 := valL_set lq j Q hjq
    rw [hq0, Nat.mul_zero, Nat.add_zero] at h2
    have h3 : valL ((lu.drop j).take (n + 1)) = Q * V + valL r := by omega
    clear hdm hm hrv hz he hlt hd hV hQ hr
    rw [h2, Nat.add_mul, Nat.mul_assoc]
    rw [h3] at h1
    generalize 18446744073709551616 ^ j = x at *
    rw [Nat.mul_add] at h1
    generalize x * (Q * V) = y at *
    generalize x * valL r = z at *
    generalize valL lq * V = t at *
    omega
theorem div_top (lu0 lu1 lv : List Nat) (n N0 N1 V : Nat) (h1 : lu1 = lu0 ++ [0, 0]) (h0 : lu0.length = N0) (hN : N1 = N0 + 2) (hl : Limbs lu0) (hp : 0 < n) (hle : n ≤ N0) (hvl : lv.length = n) (hV : valL lv = V) (ht : 0 < lv.getD (n - 1) 0) (hV0 : 0 < V) : valL (lu1.drop (N1 - n)) < V := by
  subst h1
  by_cases hn1 : n = 1
  · subst hn1
    have : (lu0 ++ [0, 0]).drop (N1 - 1) = [0] := by
      rw [List.drop_append, List.drop_of_length_le (by omega), List.nil_append, h0, show N1 - 1 - N0 = 1 by omega]; rfl
    rw [this]
    simpa [valL] using hV0
  · rw [List.drop_append_of_le_length (by omega), valL_append]
    have e : valL [0, 0] = 0 := by simp [valL]
    rw [e, Nat.mul_zero, Nat.add_zero]
    have h2 := valL_lt (hl.drop (N1 - n))
    rw [List.length_drop] at h2
    have h3 := Nat.pow_le_pow_right (show 0 < 18446744073709551616 by decide) (show lu0.length - (N1 - n) ≤ n - 1 by omega)
    have h4 := valL_top lv (n - 1) (by omega)
    rw [hV] at h4
    have h5 := Nat.mul_le_mul_left (18446744073709551616 ^ (n - 1)) (show 1 ≤ lv.getD (n - 1) 0 from ht)
    omega
end Go.Plumb
namespace Go.Proofs.YtjfjkabmpiebpaaDoor
open Go.RowKit Go.Plumb

theorem div_less (a b : Option Addr) (c d A B : Nat) (w : World) (hA : Arr w a c (limbs A)) (hB : Arr w b d (limbs B)) (hl : (limbs A).length ≤ 100000) (hlt : A < B) :
    Calls Tryd.prog 59 #[.slice a (limbs A).length c, .slice b (limbs B).length d] w fun e w' => ∃ a' c', e = .returned (.tuple #[.slice none 0 0, .slice a' (limbs A).length c']) ∧ Arr w' a' c' (limbs A) ∧ Below w.heap.size w w' := by
  have hcmp := cmp_any a b c d A B w hA hB
  have hs0 : cmpN A B < 0 := by rw [cmpN_lt]; omega
  obtain ⟨s, hs⟩ : ∃ s, cmpN A B = s := ⟨_, rfl⟩
  rw [hs] at hcmp hs0
  go_enter Tryd.func59, Tryd.ntmps59
  go_wp2_with fail
  refine hcmp.mono ?_
  rintro e w1 ⟨rfl, hb⟩
  have hC := clone_any a c _ w1 (hA.below hb) (by omega)
  have HB := Lib.hid hb
  clear hcmp hs hA hB hb
  go_wp2_with fail
  refine hC.mono ?_
  rintro e w2 ⟨v, rfl, ho, hb2⟩
  obtain ⟨a', c', rfl⟩ := OwnL.shape ho
  have HArr := Lib.hid (OwnL.arr' ho (limbs_limbs _))
  have HB2 := Lib.hid (below_step HB.out hb2)
  clear hC ho hb2
  go_wp2_with fail
  go_ret2
  exact ⟨_, _, rfl, HArr.out, HB2.out⟩
theorem setCells_own {B g N c : Nat} : ∀ (cs : List Nat) (l : List Nat) (j : Nat) (w : World), OwnL w B (.slice (some ⟨g, 0, none⟩) N c) l → j + cs.length ≤ l.length →
    OwnL (w.setCells g j (cs.map limbV)) B (.slice (some ⟨g, 0, none⟩) N c) (patch l j cs) ∧ w.grownBy (w.setCells g j (cs.map limbV)) (some g)
  | [], l, j, w, h, _ => ⟨by rw [patch_nil]; exact h, grownBy_refl _ _⟩
  | x :: r, l, j, w, h, hj => by
    have hl : j + (r.length + 1) ≤ l.length := by simpa using hj
    have h1 := OwnL.store h j x (x : Int) rfl
    obtain ⟨h2, h3⟩ := setCells_own r (l.set j x) (j + 1) _ h1 (by simp; omega)
    refine ⟨?_, ?_⟩
    · have e : patch (l.set j x) (j + 1) r = patch l j (x :: r) := by
        unfold patch
        have e1 : (l.set j x).take (j + 1) = l.take j ++ [x] := by
          rw [List.take_succ_eq_append_getElem (by simp; omega), List.take_set_of_le (Nat.le_refl _)]
          simp
        have e2 : (l.set j x).drop (j + 1 + r.length) = l.drop (j + (x :: r).length) := by
          rw [List.drop_set_of_lt (by omega)]
          congr 1
          simp; omega
        rw [e1, e2]
        simp
      rw [← e]
      exact h2
    · have h4 := grownBy_setCell (grownBy_refl w (some g)) j (limbV x)
      exact ⟨h3.os.trans h4.os, h3.tape.trans h4.tape, h3.output.trans h4.output, Nat.le_trans h4.size h3.size, fun k hk hne => (h3.block k (Nat.lt_of_lt_of_le hk h4.size) hne).trans (h4.block k hk hne)⟩
theorem zeroval (w : World) : (zeroValue 36).run Tryd.prog w = .ok (limbV 0) w := by kernel_rfl
theorem clear_own {w : World} {B g N c j n c' : Nat} {l : List Nat} (h : OwnL w B (.slice (some ⟨g, 0, none⟩) N c) l) (hn : 0 < n) (hj : j + n ≤ l.length) :
    ∃ w', (∀ ty, (Builtin.clear_ #[22] ty #[.slice (some ⟨g, j, none⟩) n c']).run Tryd.prog w = .ok (.tuple #[]) w') ∧ OwnL w' B (.slice (some ⟨g, 0, none⟩) N c) (patch l j (List.replicate n 0)) ∧ w.grownBy w' (some g) := by
  obtain ⟨h1, h2⟩ := setCells_own (List.replicate n 0) l j w h (by simpa using hj)
  refine ⟨_, fun ty => ?_, h1, h2⟩
  have := Lib.run_clear_slice (P := Tryd.prog) w 22 36 ty (limbV 0) Tryd.underlying22 zeroval rfl rfl g j n c' hn (fun i hi => by
    rw [OwnL.cell h (j + i) (l[j + i]'(by omega)) (by simp)]; rfl) (fun i _ => OwnL.thaw h _)
  rw [this, List.map_replicate]
theorem arr_at {w : World} {a : Option Addr} {c : Nat} {l : List Nat} (h : Arr w a c l) (j : Nat) (hj : j < l.length) : ∃ b off, a = some ⟨b, off, none⟩ ∧ w.cell? ⟨b, off + j, none⟩ = some (limbV (l.getD j 0)) := h.2.2.2 j hj
theorem size_u64 : (Tryd.prog.info? 36).map (·.size) = some 1 := by kernel_rfl
theorem copy_own {w : World} {B g N c j n m c' cs : Nat} {sp : Option Addr} {l r : List Nat} (h : OwnL w B (.slice (some ⟨g, 0, none⟩) N c) l) (hA : Arr w sp cs r) (hm : r.length = m) (hmn : m ≤ n) (hj : j + n ≤ l.length) :
    ∃ w', (∀ ty, (Builtin.copy_ #[22, 22] ty #[.slice (some ⟨g, j, none⟩) n c', .slice sp m cs]).run Tryd.prog w = .ok (goInt m) w') ∧ OwnL w' B (.slice (some ⟨g, 0, none⟩) N c) (patch l j r) ∧ w.grownBy w' (some g) := by
  subst hm
  by_cases h0 : r.length = 0
  · obtain rfl : r = [] := List.length_eq_zero_iff.1 h0
    refine ⟨w, fun ty => ?_, by rw [patch_nil]; exact h, grownBy_refl _ _⟩
    exact run_copy_none (P := Tryd.prog) w 22 22 ty 36 _ _ n c' 0 cs Tryd.underlying22 size_u64 (by simp)
  · obtain ⟨b, off, rfl, _⟩ := hA.2.2.2 0 (by omega)
    obtain ⟨h1, h2⟩ := setCells_own r l j w h (by omega)
    refine ⟨_, fun ty => ?_, h1, h2⟩
    have := run_copy_cells (P := Tryd.prog) w 22 22 ty 36 g j n c' ⟨b, off, none⟩ r.length cs (r.map limbV) Tryd.underlying22 size_u64 (by rw [List.length_map]; exact (Nat.min_eq_left hmn).symm) (fun i v hv => by
      obtain ⟨hi, rfl⟩ := List.getElem?_eq_some_iff.1 hv
      obtain ⟨b', off', e, hc⟩ := arr_at hA i (by simpa using hi)
      cases e
      rw [Addr.add_lit, hc]
      simp [List.getD, show i < r.length by simpa using hi]) (fun i hi => by
      have hi' : i < r.length := by simpa using hi
      rw [OwnL.cell h (j + i) (l[j + i]'(by omega)) (by simp)]; rfl) (fun i _ => OwnL.thaw h _) (fun v hv => by obtain ⟨x, _, rfl⟩ := List.mem_map.1 hv; rfl)
    rw [this]
    simp
/-- What holds at the head of each round of the division. -/
structure DivRel (w2 : World) (gu gq nu nq capu V U : Nat) (m : Nat) (lu lq : List Nat) (wr : World) : Prop where
  lenu : lu.length = nu
  limu : Limbs lu
  lenq : lq.length = nq
  limq : Limbs lq
  val : valL lq * V + valL lu = U
  top : valL (lu.drop m) < V
  low : ∀ i, i < m → lq.getD i 0 = 0
  ownu : OwnL wr w2.heap.size (.slice (some ⟨gu, 0, none⟩) nu capu) lu
  ownq : OwnL wr w2.heap.size (.slice (some ⟨gq, 0, none⟩) nq nq) lq
  below : Below w2.heap.size w2 wr
theorem OwnL.later {w w' : World} {B : Nat} {v : Value} {l : List Nat} (h : OwnL w B v l) (hb : Below w.heap.size w w') : OwnL w' B v l := by
  obtain ⟨hx, hn | ⟨g, cap, cur, e, hg, hh, rest⟩⟩ := h
  · exact ⟨hx, .inl hn⟩
  · refine ⟨hx, .inr ⟨g, cap, cur, e, hg, ?_, rest⟩⟩
    rw [hb.block g (Array.getElem?_eq_some_iff.1 hh).1]
    exact hh
theorem DivRel.later {w2 : World} {gu gq nu nq capu V U m : Nat} {lu lq : List Nat} {wr wx : World} (h : DivRel w2 gu gq nu nq capu V U m lu lq wr) (hb : Below wr.heap.size wr wx) : DivRel w2 gu gq nu nq capu V U m lu lq wx :=
  ⟨h.lenu, h.limu, h.lenq, h.limq, h.val, h.top, h.low, OwnL.later h.ownu hb, OwnL.later h.ownq hb, h.below.trans (hb.mono h.below.size)⟩
theorem DivRel.window {w2 : World} {gu gq nu nq capu V U m : Nat} {lu lq : List Nat} {wr : World} (h : DivRel w2 gu gq nu nq capu V U m lu lq wr) (j n : Nat) (hj : j + n ≤ nu) (hc : nu ≤ capu) (hm : capu ≤ maxLen) : Arr wr (some ⟨gu, j, none⟩) (capu - j) ((lu.drop j).take n) := by
  have hl := h.lenu
  have hlen : ((lu.drop j).take n).length = n := by simp; omega
  refine ⟨by rw [hlen]; omega, by omega, (h.limu.drop j).take n, fun i hi => ⟨gu, j, rfl, ?_⟩⟩
  rw [hlen] at hi
  rw [getD_take _ _ _ hi, getD_drop]
  exact OwnL.cell h.ownu (j + i) _ (by simp [List.getD, show j + i < lu.length by omega])
theorem mulp_value (os lv : List Nat) (n cy g V : Nat) (hos : os.length = n) (hlv : lv.length = n) (hV : valL lv = V) (he : valL os + 18446744073709551616 ^ n * cy = valL (((List.replicate (n + 1) 0).drop 0).take n) + valL lv * g) :
    valL ((patch (List.replicate (n + 1) 0) 0 os).set n cy) = g * V := by
  have h1 : ((List.replicate (n + 1) 0).drop 0).take n = List.replicate n 0 := by simp [List.take_replicate]
  rw [h1, valL_replicate, Nat.zero_add, hV] at he
  have h2 : patch (List.replicate (n + 1) 0) 0 os = os ++ [0] := by
    unfold patch
    rw [hos]
    simp [List.drop_replicate]
  rw [h2, ← hos, List.set_append_right _ _ (Nat.le_refl _), Nat.sub_self, List.set_cons_zero, valL_append, valL_one, hos, he, Nat.mul_comm]
/-- Behind nat.mul into a new row, and the store of its carry: the product, and all that was there. -/
theorem mulp_own {w2 wx w5 : World} {n cy g V : Nat} {os lv : List Nat} (hos : os.length = n) (hlv : lv.length = n) (hV : valL lv = V) (hcy : cy < 18446744073709551616) (hlo : Limbs os) (he : valL os + 18446744073709551616 ^ n * cy = valL (((List.replicate (n + 1) 0).drop 0).take n) + valL lv * g)
    (ho : OwnL w5 w2.heap.size (.slice (some ⟨wx.heap.size, 0, none⟩) (n + 1) (n + 1)) (patch (List.replicate (n + 1) 0) 0 os)) (hg : (wx.alloc (.cells (zerosA (n + 1)) 36)).grownBy w5 (some wx.heap.size)) :
    w5.cell? ⟨wx.heap.size, n, none⟩ = some (.int .u64 0) ∧ w5.frozen? ⟨wx.heap.size, n, none⟩ = false ∧
      ∃ lp : List Nat, lp.length = n + 1 ∧ valL lp = g * V ∧ Limbs lp ∧ OwnL (w5.setCell ⟨wx.heap.size, n, none⟩ (.int .u64 (cy : Int))) w2.heap.size (.slice (some ⟨wx.heap.size, 0, none⟩) (n + 1) (n + 1)) lp ∧
        Below wx.heap.size wx (w5.setCell ⟨wx.heap.size, n, none⟩ (.int .u64 (cy : Int))) := by
  have hl : (patch (List.replicate (n + 1) 0) 0 os).length = n + 1 := by rw [patch_length _ _ _ (by simp; omega)]; simp
  refine ⟨?_, OwnL.thaw ho n, (patch (List.replicate (n + 1) 0) 0 os).set n cy, by simp [hl], mulp_value os lv n cy g V hos hlv hV he, (patch_limbs (Limbs.replicate _) hlo 0).set _ _ hcy, OwnL.store ho n cy _ rfl, ?_⟩
  · refine OwnL.cell ho n 0 ?_
    have h := patch_at (List.replicate (n + 1) 0) os 0 (by simp; omega)
    rw [hos, Nat.zero_add] at h
    rw [h]; simp
  · exact (((Below.refl _ wx).alloc (Nat.le_refl _) _).grown hg (by simp) (by intro q hq; cases hq; exact Nat.le_refl _)).setCell (Nat.le_refl _) _
theorem patch_patch (l r : List Nat) (j n : Nat) (hj : j + n ≤ l.length) (hr : r.length ≤ n) : patch (patch l j (List.replicate n 0)) j r = patch l j (fillL r n) := by
  unfold patch fillL
  have e1 : (l.take j).length = j := by simp; omega
  have h1 : (l.take j ++ List.replicate n 0 ++ l.drop (j + (List.replicate n 0).length)).take j = l.take j := by
    rw [List.append_assoc, List.take_append_of_le_length (by rw [e1]; exact Nat.le_refl _), List.take_of_length_le (by rw [e1]; exact Nat.le_refl _)]
  have h2 : (l.take j ++ List.replicate n 0 ++ l.drop (j + (List.replicate n 0).length)).drop (j + r.length) = List.replicate (n - r.length) 0 ++ l.drop (j + n) := by
    rw [List.append_assoc, List.drop_append, e1, List.drop_of_length_le (by rw [e1]; omega), List.nil_append, Nat.add_sub_cancel_left, List.drop_append_of_le_length (by simp; exact hr), List.drop_replicate]
    simp
  rw [h1, h2]
  have h3 : (r ++ List.replicate (n - r.length) 0).length = n := by simp; omega
  rw [h3]
  simp
theorem OwnL.grown {w w' : World} {B g : Nat} {v : Value} {l : List Nat} (h : OwnL w B v l) (hg : w.grownBy w' (some g)) (hne : v.ownBlock ≠ some g) : OwnL w' B v l := World.ownsRow.kept h hg (.inr hne)
theorem DivRel.fin {w2 w10 w11 w12 : World} {gu gq nu nq capu V U j n g : Nat} {lu lq : List Nat} (h : DivRel w2 gu gq nu nq capu V U (j + 1) lu lq w10) (hne : gq ≠ gu) (hgu : w2.heap.size ≤ gu) (hgq : w2.heap.size ≤ gq) (hjn : j + n + 1 ≤ nu) (hjq : j < nq) (hV : 0 < V ∧ V < 18446744073709551616 ^ n)
    (hQ : g = valL ((lu.drop j).take (n + 1)) / V) (hg : g < 18446744073709551616) (ho12 : OwnL w12 w2.heap.size (.slice (some ⟨gu, 0, none⟩) nu capu) (patch (patch lu j (List.replicate (n + 1) 0)) j (limbs (valL ((lu.drop j).take (n + 1)) - g * V)))) (g11 : w10.grownBy w11 (some gu)) (g12 : w11.grownBy w12 (some gu)) :
    w12.cell? ⟨gq, j, none⟩ = some (.int .u64 0) ∧ w12.frozen? ⟨gq, j, none⟩ = false ∧
      DivRel w2 gu gq nu nq capu V U j (patch lu j (fillL (limbs (valL ((lu.drop j).take (n + 1)) - g * V)) (n + 1))) (lq.set j g) (w12.setCell ⟨gq, j, none⟩ (.int .u64 (g : Int))) := by
  obtain ⟨l1, l2, l3, l4, hval, htop, hlow, hou, hoq, hb⟩ := h
  have hdm := Nat.div_add_mod (valL ((lu.drop j).take (n + 1))) V
  have hm := Nat.mod_lt (valL ((lu.drop j).take (n + 1))) hV.1
  rw [← hQ, Nat.mul_comm] at hdm
  have hR : (limbs (valL ((lu.drop j).take (n + 1)) - g * V)).length ≤ n := length_limbs_le _ _ (by omega)
  have hfl : (fillL (limbs (valL ((lu.drop j).take (n + 1)) - g * V)) (n + 1)).length = n + 1 := fillL_length _ _ (by omega)
  rw [patch_patch _ _ _ _ (by omega) (by omega)] at ho12
  have hoq2 := OwnL.grown (OwnL.grown hoq g11 (by simpa [Value.ownBlock] using hne)) g12 (by simpa [Value.ownBlock] using hne)
  have hstep := div_step lu lq j n V g (fillL (limbs (valL ((lu.drop j).take (n + 1)) - g * V)) (n + 1)) l2 hV.1 (by omega) (by omega) (hlow j (by omega)) hV.2 htop hQ (by rw [fillL_value, valL_limbs]) hfl
  have hz : lq[j]? = some 0 := by
    have := hlow j (by omega)
    rw [List.getElem?_eq_getElem (by omega)]
    simpa [List.getD, show j < lq.length by omega] using this
  have hB12 : Below w2.heap.size w2 w12 := (hb.grown g11 hb.size (fun q e => by cases e; exact hgu)).grown g12 (hb.grown g11 hb.size (fun q e => by cases e; exact hgu)).size (fun q e => by cases e; exact hgu)
  refine ⟨OwnL.cell hoq2 j 0 hz, OwnL.thaw hoq2 j, ⟨?_, ?_, by simp [l3], l4.set _ _ hg, by rw [hstep.2]; exact hval, hstep.1, ?_, ?_, OwnL.store hoq2 j g _ rfl, hB12.setCell hgq _⟩⟩
  · rw [patch_length _ _ _ (by omega)]; exact l1
  · exact patch_limbs l2 (fillL_limbs (limbs_limbs _) _) j
  · intro i hi
    have := hlow i (by omega)
    unfold List.getD at this ⊢
    rw [List.getElem?_set_ne (by omega)]
    exact this
  · refine World.ownsRow.kept ho12 (row := some gq) ?_ (.inr (by simpa [Value.ownBlock] using Ne.symm hne))
    exact grownBy_setCell (grownBy_refl _ _) _ _
theorem OwnL.lt {w : World} {B g n c : Nat} {l : List Nat} (h : OwnL w B (.slice (some ⟨g, 0, none⟩) n c) l) : g < w.heap.size := by
  obtain rfl := h.len
  unfold OwnL at h
  exact (World.ownsRow.lt h g rfl).2
end Go.Proofs.YtjfjkabmpiebpaaDoor
