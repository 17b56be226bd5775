/-
  The reference's Exact and Log at every input; walk of its Text.
-/
import Derived.Test.YtaeognfpmhfmgaaDoorBitsX
set_option linter.unusedSimpArgs false
set_option linter.unusedVariables false
namespace Go.Plumb
open Go.RowKit
def byteV (b : UInt8) : Value := .int .u8 (b.toNat : Int)
theorem textL_get (x : Int) (k : Nat) (hk : k < 16) : (((textL x)[k]'(by rw [textL_length]; exact hk)).toNat : Int) = hexd (x / 2 ^ (60 - 4 * k) % 16) := by
  simp only [textL, List.getElem_map, List.getElem_range]
  have hb : 0 ≤ x / 2 ^ (60 - 4 * k) % 16 ∧ x / 2 ^ (60 - 4 * k) % 16 < 16 := by omega
  generalize x / 2 ^ (60 - 4 * k) % 16 = d at hb
  have hh := hexd_bounds d hb.1 hb.2
  have : (UInt8.ofNat (hexd d).toNat).toNat = (hexd d).toNat := by
    rw [UInt8.toNat_ofNat']; omega
  rw [this]; omega
theorem pErr_class (x : Int) : pErr x = 0 ↔ classI x ≤ 3 := by unfold pErr; split <;> omega
theorem oddM_pos (m : Int) (h0 : 0 < m) (h1 : m < 18446744073709551616) : oddM m ≠ 0 := by
  obtain ⟨m', hm', hk'⟩ := Lib.ctzFrom_spec 64 m.toNat (by omega) (by simp only [Nat.reducePow]; omega)
  generalize Lib.ctzFrom 64 m.toNat = k at hm' hk'
  have hm : m = (2 * (m' : Int) + 1) * 2 ^ k := by
    have a : (m.toNat : Int) = ((2 ^ k * (2 * m' + 1) : Nat) : Int) := by rw [← hm']
    have b : (m.toNat : Int) = m := by omega
    rw [b] at a
    rw [a]; simp [Int.mul_comm]
  have := odd_done m _ _ h0 h1 hm (by omega)
  rw [this.2]; omega
theorem wordN_zero_class (neg : Bool) : classI (wordN neg 0 : Int) = 1 ∧ pMan (wordN neg 0 : Int) = 0 := by cases neg <;> decide
theorem wordN_inf_class (neg : Bool) : classI (wordN neg 9218868437227405312 : Int) = 4 := by cases neg <;> decide
theorem exactB_zero (neg : Bool) (e : Int) : exactB neg 0 e = true := by
  have h : roundW neg 0 e false = (wordN neg 0 : Int) := rfl
  unfold exactB
  rw [h]
  obtain ⟨h1, h2⟩ := wordN_zero_class neg
  have h3 : pErr (wordN neg 0 : Int) = 0 := (pErr_class _).2 (by omega)
  rw [h2, h3]; rfl
theorem exactB_far (neg : Bool) (m e : Int) (h0 : 0 < m) (h1 : m < 18446744073709551616) (he : e < -3000 ∨ 3000 < e) : exactB neg m e = false := by
  unfold exactB
  rcases he with he | he
  · rw [roundW_zero neg m e false h1 (.inr he)]
    obtain ⟨_, h2⟩ := wordN_zero_class neg
    rw [h2]
    have h3 := oddM_pos m h0 h1
    have h4 : oddM 0 = 0 := rfl
    rw [h4]
    have : (oddM m == 0) = false := by simpa using h3
    rw [this]; simp
  · rw [roundW_inf neg m e false (by omega) (by omega) he]
    have h3 : ¬ pErr (wordN neg 9218868437227405312 : Int) = 0 := by rw [pErr_class, wordN_inf_class]; omega
    simp [h3]
theorem exactB_near (neg : Bool) (m e W : Int) (h0 : 0 < m) (h1 : m < 18446744073709551616) (he0 : -3000 ≤ e) (he1 : e ≤ 3000) (hW : roundW neg m e false = W) :
    exactB neg m e = (decide (classI W ≤ 3) && (oddM (pMan W) == oddM m && pExp W + Lib.ctz 64 (pMan W).toNat == e + Lib.ctz 64 m.toNat)) := by
  unfold exactB
  rw [hW]
  have e1 : decide (pErr W = 0) = decide (classI W ≤ 3) := by
    rw [Bool.eq_iff_iff]; simp [pErr_class]
  rw [e1]
  have hc : ∀ n : Nat, Lib.ctz 64 n ≤ 64 := by
    intro n
    unfold Lib.ctz
    split
    · omega
    · have : ∀ (f x : Nat), Lib.ctzFrom f x ≤ f := by
        intro f
        induction f with
        | zero => intro x; simp [Lib.ctzFrom]
        | succ f ih => intro x; unfold Lib.ctzFrom; split; omega; have := ih (x / 2); omega
      exact this 64 n
  have c1 := hc m.toNat
  have c2 := hc (pMan W).toNat
  have hE1 : oddE m e = e + Lib.ctz 64 m.toNat := by
    unfold oddE; rw [if_neg (by omega)]
    unfold wrap64; omega
  congr 1
  by_cases hz : pMan W = 0
  · have h3 := oddM_pos m h0 h1
    have h4 : oddM 0 = 0 := rfl
    rw [hz, h4]
    have a : (oddM m == 0) = false := by simpa using h3
    have b : ((0 : Int) == oddM m) = false := by simpa using Ne.symm h3
    rw [a, b]; rfl
  · have hE2 : oddE (pMan W) (pExp W) = pExp W + Lib.ctz 64 (pMan W).toNat := by
      have := pExp_ge W
      have := pExp_le W
      unfold oddE; rw [if_neg hz]
      unfold wrap64; omega
    rw [hE1, hE2, Bool.eq_iff_iff]
    simp only [Bool.and_eq_true, beq_iff_eq]
    exact ⟨fun ⟨a, b⟩ => ⟨a.symm, b.symm⟩, fun ⟨a, b⟩ => ⟨a.symm, b.symm⟩⟩
theorem exactB_pos (neg : Bool) (m e W : Int) (h0 : 0 < m) (h1 : m < 18446744073709551616) (hW : roundW neg m e false = W) (hz : pMan W = 0) : exactB neg m e = false := by
  unfold exactB
  rw [hW, hz]
  have h3 := oddM_pos m h0 h1
  have h4 : oddM 0 = 0 := rfl
  rw [h4]
  have : (oddM m == 0) = false := by simpa using h3
  rw [this]; simp
/-- The whole of the places of a number: how many halvings leave 1. -/
theorem len_of_one (m : Int) (j : Nat) (h0 : 0 ≤ m) (h : m / 2 ^ j = 1) : lenI m = j + 1 := by
  obtain ⟨n, rfl⟩ := Int.eq_ofNat_of_zero_le h0
  have h' : n / 2 ^ j = 1 := by
    have : ((n / 2 ^ j : Nat) : Int) = 1 := by rw [← h]; simp
    omega
  have hp := Nat.two_pow_pos j
  have h1 : 2 ^ j ≤ n := by
    have := Nat.div_mul_le_self n (2 ^ j)
    rw [h'] at this; omega
  have h2 : n < 2 ^ (j + 1) := by
    rw [Nat.pow_succ]
    have := (Nat.div_lt_iff_lt_mul hp).1 (show n / 2 ^ j < 2 by omega)
    omega
  unfold lenI
  rw [Int.toNat_natCast, lenN_eq h1 h2]; rfl
end Go.Plumb
namespace Go.Proofs.YtaeognfpmhfmgaaDoor
open Go.RowKit Go.Plumb

set_option maxHeartbeats 1000000 in
theorem rexact_zero (neg : Bool) (e : Int) (w : World) :
    Calls Tryd.prog 26 #[.agg #[.bool neg, .int .u64 0, .int .i64 e]] w fun e' w' => e' = .returned (.tuple #[.int .u64 (wordN neg 0 : Int), .bool true]) ∧ Below w.heap.size w w' := by
  have HW : Hid ((wordN neg 0 : Int) = if neg = true then 9223372036854775808 + ((0 : Nat) : Int) else ((0 : Nat) : Int)) := Lib.hid (wordN_sign neg 0)
  cases neg
  all_goals
    go_enter Tryd.func26, Tryd.ntmps26
    go_wp2_with fail
    go_quiet (fail)
    go_wp2_with (go_at_call 53; (with_reducible refine (rsign_any _ _ _ (by omega) (by omega)).mono ?_); rintro e w' ⟨rfl, rfl⟩)
    go_ret2
    exact ⟨rfl, by (repeat' (first | exact Below.refl _ _ | assumption | (refine below_alloc ?_ _) | (refine Below.setCell ?_ ?_ _) | (refine Below.drew ?_) | (refine below_drewN ?_ _))) <;> (first | (simp; done) | (simp; omega) | omega)⟩
set_option maxHeartbeats 1000000 in
theorem rexact_far (neg : Bool) (m e : Int) (w : World) (hm : (m == 0) = false) (he : e < -3000 ∨ 3000 < e) :
    Calls Tryd.prog 26 #[.agg #[.bool neg, .int .u64 m, .int .i64 e]] w fun e' w' => e' = .returned (.tuple #[.int .u64 0, .bool false]) ∧ Below w.heap.size w w' := by
  rcases he with he | he
  all_goals
    go_enter Tryd.func26, Tryd.ntmps26
    go_wp2_with fail
    go_quiet (fail)
    go_wp2_with fail
    go_ret2
    exact ⟨rfl, by (repeat' (first | exact Below.refl _ _ | assumption | (refine below_alloc ?_ _) | (refine Below.setCell ?_ ?_ _) | (refine Below.drew ?_) | (refine below_drewN ?_ _))) <;> (first | (simp; done) | (simp; omega) | omega)⟩
theorem rexact_any (neg : Bool) (m e : Int) (w : World) (h0 : 0 ≤ m) (h1 : m < 18446744073709551616) :
    Calls Tryd.prog 26 #[.agg #[.bool neg, .int .u64 m, .int .i64 e]] w fun e' w' => e' = .returned (.tuple #[.int .u64 (if exactB neg m e = true then roundW neg m e false else 0), .bool (exactB neg m e)]) ∧ Below w.heap.size w w' := by
  by_cases hm : m = 0
  · subst hm
    rw [exactB_zero]
    exact rexact_zero neg e w
  · by_cases he : e < -3000 ∨ 3000 < e
    · rw [exactB_far neg m e (by omega) h1 he]
      exact rexact_far neg m e w (by simpa using hm) he
    · exact rexact_core neg m e _ w (by omega) h1 (by omega) (by omega) rfl (roundW_ge _ _ _ _) (roundW_lt _ _ _ _) _ (exactB_near neg m e _ (by omega) h1 (by omega) (by omega) rfl) (fun _ hz => exactB_pos neg m e _ (by omega) h1 rfl hz)

theorem rlog_any (x : Int) (w : World) (h0 : 0 ≤ x) (h1 : x < 18446744073709551616) (hc : classI x ≤ 3) (hz : pMan x ≠ 0) :
    Calls Tryd.prog 36 #[.int .u64 x] w fun e' w' => e' = .returned (.int .i64 (pExp x + lenI (pMan x) - 1)) ∧ Below w.heap.size w w' :=
  rlog_core x _ _ _ w h0 h1 hc rfl (by have := pMan_ge x; omega) (pMan_lt x) rfl (pExp_ge x) (pExp_le x) (fun j hj => by
    rw [len_of_one _ j (pMan_ge x) hj]; omega)

theorem info_u8 : (Tryd.prog.info? 5).map (fun i => (i.zero, i.size, i.bytes)) = some (some (.int .u8 0), 1, 1) := by kernel_rfl

set_option maxHeartbeats 2000000 in
theorem rtext_any (x : Int) (w : World) (h0 : 0 ≤ x) (h1 : x < 18446744073709551616) :
    Calls Tryd.prog 45 #[.int .u64 x] w fun e w' => e = .returned (.string (textB x)) ∧ Below w.heap.size w w' := by
  obtain ⟨i0, hi, hz0, hz1, hz2⟩ := info_parts info_u8
  go_enter Tryd.func45, Tryd.ntmps45
  go_wp2_with fail
  go_loopw [3, 4] (fun v3 v4 wr => ∃ k : Nat, k ≤ 16 ∧ v4 = .int .i64 (60 - 4 * (k : Int)) ∧ wr.ownsRow w.heap.size 5 1 v3 k (((textL x).take k).map byteV) ∧ Below w.heap.size w wr) (fun _ v4 _ => (intOf v4 + 4).toNat)
  case atStart => exact ⟨0, by omega, rfl, World.ownsRow_nil _ _ _ _, Below.refl _ _⟩
  case round =>
    obtain ⟨k, hk, rfl, hown, hbw⟩ := hrel
    by_cases hlt : k < 16
    · have hx0 : 0 ≤ x / 2 ^ (60 - 4 * k) := Int.ediv_nonneg h0 (Int.le_of_lt (Int.pow_pos (by decide)))
      have hx1 : x / 2 ^ (60 - 4 * k) < 18446744073709551616 := by
        have := Int.ediv_le_self (2 ^ (60 - 4 * k)) h0; omega
      have e1 := and_15 hx0 hx1
      have hd := run_digit (x / 2 ^ (60 - 4 * k) % 16) (by omega) (by omega)
      have HBW := Lib.hid hbw
      have hsz := hbw.size
      have hlk : (((textL x).take k).map byteV).length = k := by simp [textL_length]; omega
      have HLK := Lib.hid hlk
      clear hx0 hx1 hbw hlk
      go_wp2_with (at_builtin; refine wpList_append_own _ rfl _ _ 72 rfl w.heap.size 5 i0 (.int .u8 0) 1 1 Tryd.underlying72 hi hz0 hz1 hz2 rfl (by decide) _ _ _ rfl (hown.alloc _) ⟨wr.heap.size, 0, none⟩ 1 1 [.int .u8 (hexd (x / 2 ^ (60 - 4 * k) % 16))] rfl rfl ?c1 ?c2 ?c3 ?c4 ?c5 ?_)
      case c1 => exact cell_one_new _ _ _
      case c2 => intro u hu; simp at hu; subst hu; rfl
      case c3 => unfold maxLen; omega
      case c4 => omega
      case c5 => simp; omega
      · intro v' w1 hown' hgrow _
        have HO := Lib.hid hown'
        have HG := Lib.hid (Below.grown (HBW.out.alloc (by omega) _) hgrow (by simp; omega) (fun j hj => by have := (hown.lt _ hj).1; omega))
        clear hown' hgrow hown
        go_wp2_with fail
        go_roundw
        case rel =>
          refine ⟨k + 1, by omega, by go_num, ?_, HG.out⟩
          have h := HO.out
          rw [← textL_get x k hlt, ← List.map_take] at h
          rw [List.take_succ_eq_append_getElem (by rw [textL_length]; omega), List.map_append]
          exact h
        case measure => simp [intOf]; omega
    · obtain rfl : k = 16 := by omega
      have hconv : (convert 72 9 u3).run Tryd.prog wr = .ok (.string (textB x)) wr := by
        obtain ⟨_, h | ⟨g, cap, cur, hv, hg, hh, hn, hcap, hsz, htake⟩⟩ := hown
        · omega
        · subst hv
          have := run_convert_bytes_back (P := Tryd.prog) wr 72 9 5 ⟨g, 0, none⟩ cap (textL x) Tryd.underlying72 Tryd.underlying5 Tryd.underlying9 (fun j hj => by
            rw [show (⟨g, 0, none⟩ : Addr).add j = ⟨g, j, none⟩ by (unfold Addr.add; split <;> simp_all)]
            have hj16 : j < 16 := by rw [textL_length] at hj; exact hj
            have hc : (cur.toList.take (16 * 1))[j]? = some (byteV (textL x)[j]) := by
              rw [htake, List.take_of_length_le (by rw [textL_length]; omega), List.getElem?_map, List.getElem?_eq_getElem hj]; rfl
            rw [List.getElem?_take_of_lt (by omega), Array.getElem?_toList] at hc
            simp only [World.cell?, hh]
            exact hc)
          rw [textL_length] at this
          exact this
      have HBW := Lib.hid hbw
      clear hown hbw
      go_wp2_with fail
      go_ret
      exact ⟨rfl, HBW.out⟩

end Go.Proofs.YtaeognfpmhfmgaaDoor
