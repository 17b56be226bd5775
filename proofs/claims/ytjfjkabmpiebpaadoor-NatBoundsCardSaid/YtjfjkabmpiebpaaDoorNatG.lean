/-
  math/bits.Mul64; nat.mul, Mul at every two numbers.
-/
import Derived.Test.YtjfjkabmpiebpaaDoorNatE
import Derived.Test.YtjfjkabmpiebpaaDoorNatF
import Derived.Test.YtjfjkabmpiebpaaDoorNatQ
import Derived.Lib.Mul64
set_option linter.unusedSimpArgs false
set_option linter.unusedVariables false
namespace Go.Plumb
open Go.RowKit
theorem mul64_plain (x y : Nat) (hx : x < 18446744073709551616) (hy : y < 18446744073709551616) :
    (IntKind.u64.wrap
              (IntKind.u64.wrap
                  (IntKind.u64.wrap ((x : Int) / 4294967296 * ((y : Int) / 4294967296)) +
                    IntKind.u64.wrap
                        (IntKind.u64.wrap ((x : Int) / 4294967296 * ((y : Int) % 4294967296)) +
                          IntKind.u64.wrap ((x : Int) % 4294967296 * ((y : Int) % 4294967296)) / 4294967296) /
                      4294967296) +
                IntKind.u64.wrap
                    (bits BinOp.and IntKind.u64
                        (IntKind.u64.wrap
                          (IntKind.u64.wrap ((x : Int) / 4294967296 * ((y : Int) % 4294967296)) +
                            IntKind.u64.wrap ((x : Int) % 4294967296 * ((y : Int) % 4294967296)) / 4294967296))
                        4294967295 +
                      IntKind.u64.wrap ((x : Int) % 4294967296 * ((y : Int) / 4294967296))) /
                  4294967296)) = ((x * y / 18446744073709551616 : Nat) : Int) ∧ IntKind.u64.wrap ((x : Int) * (y : Int)) = ((x * y % 18446744073709551616 : Nat) : Int) := by
  obtain ⟨h1, h2, h3, h4⟩ := Lib.mul64_hi x y hx hy
  have ha := Lib.half_mul_le (a := x / 4294967296) (b := y / 4294967296) (by omega) (by omega)
  have hb := Lib.half_mul_le (a := x / 4294967296) (b := y % 4294967296) (by omega) (by omega)
  have hc := Lib.half_mul_le (a := x % 4294967296) (b := y / 4294967296) (by omega) (by omega)
  have hd := Lib.half_mul_le (a := x % 4294967296) (b := y % 4294967296) (by omega) (by omega)
  have e1 : (x : Int) / 4294967296 * ((y : Int) / 4294967296) = ((x / 4294967296 * (y / 4294967296) : Nat) : Int) := by simp
  have e2 : (x : Int) / 4294967296 * ((y : Int) % 4294967296) = ((x / 4294967296 * (y % 4294967296) : Nat) : Int) := by simp
  have e3 : (x : Int) % 4294967296 * ((y : Int) / 4294967296) = ((x % 4294967296 * (y / 4294967296) : Nat) : Int) := by simp
  have e4 : (x : Int) % 4294967296 * ((y : Int) % 4294967296) = ((x % 4294967296 * (y % 4294967296) : Nat) : Int) := by simp
  have e5 : (x : Int) * (y : Int) = ((x * y : Nat) : Int) := by simp
  rw [e1, e2, e3, e4, e5]
  generalize x / 4294967296 * (y / 4294967296) = a at *
  generalize x / 4294967296 * (y % 4294967296) = b at *
  generalize x % 4294967296 * (y / 4294967296) = c at *
  generalize x % 4294967296 * (y % 4294967296) = d at *
  generalize x * y = m at *
  have wr : ∀ n : Nat, n < 18446744073709551616 → IntKind.u64.wrap (n : Int) = (n : Int) := fun n h => by rw [IntKind.wrap_u64]; omega
  have f1 : (b : Int) + (d : Int) / 4294967296 = ((b + d / 4294967296 : Nat) : Int) := by simp
  have f2 : ((((b + d / 4294967296 : Nat) : Int) % 4294967296 + (c : Int))) = (((b + d / 4294967296) % 4294967296 + c : Nat) : Int) := by simp
  rw [wr a (by omega), wr b (by omega), wr c (by omega), wr d (by omega), f1, wr _ h2, show (4294967295 : Int) = 2 ^ 32 - 1 by decide, and_mask 32 (by decide) (by omega) (by omega), show (2 : Int) ^ 32 = 4294967296 by decide, f2, wr _ h3]
  simp only [IntKind.wrap_u64]
  constructor <;> omega
end Go.Plumb
namespace Go.Proofs.YtjfjkabmpiebpaaDoor
open Go.RowKit Go.Plumb

set_option maxHeartbeats 1000000 in
theorem mul64_any (x y : Nat) (w : World) (hx : x < 18446744073709551616) (hy : y < 18446744073709551616) :
    Calls Tryd.prog 73 #[.int .u64 (x : Int), .int .u64 (y : Int)] w fun e w' => e = .returned (.tuple #[.int .u64 ((x * y / 18446744073709551616 : Nat) : Int), .int .u64 ((x * y % 18446744073709551616 : Nat) : Int)]) ∧ w = w' := by
  have m1 : bits .and .u64 (x : Int) 4294967295 = (x : Int) % 4294967296 := and_mask 32 (by decide) (by omega) (by omega)
  have m2 : bits .and .u64 (y : Int) 4294967295 = (y : Int) % 4294967296 := and_mask 32 (by decide) (by omega) (by omega)
  have hx0 : (0 : Int) ≤ (x : Int) := by omega
  have hy0 : (0 : Int) ≤ (y : Int) := by omega
  go_enter Tryd.func73, Tryd.ntmps73
  go_wp2_with fail
  go_ret2
  obtain ⟨p1, p2⟩ := mul64_plain x y hx hy
  exact ⟨by rw [p1, p2]; rfl, rfl⟩

/-- What holds at the head of each round of mul. -/
structure MulRel (w : World) (B g k cap : Nat) (la lo : List Nat) (n i : Nat) (os : List Nat) (cy : Nat) (wr : World) : Prop where
  len : os.length = i
  limbs : Limbs os
  val : valL os + 18446744073709551616 ^ i * cy = valL ((lo.drop k).take i) + valL (la.take i) * n
  own : OwnL wr B (.slice (some ⟨g, 0, none⟩) lo.length cap) (patch lo k os)
  grown : w.grownBy wr (some g)
theorem patch_at (lo os : List Nat) (k : Nat) (h : k + os.length ≤ lo.length) : (patch lo k os)[k + os.length]? = lo[k + os.length]? := by
  unfold patch
  rw [List.append_assoc, List.getElem?_append_right (by simp; omega), List.length_take, Nat.min_eq_left (by omega), Nat.add_sub_cancel_left, List.getElem?_append_right (Nat.le_refl _), Nat.sub_self, List.getElem?_drop, Nat.add_zero]
theorem patch_set (lo os : List Nat) (k x : Nat) (h : k + os.length < lo.length) : (patch lo k os).set (k + os.length) x = patch lo k (os ++ [x]) := by
  unfold patch
  have e : (lo.take k).length = k := by simp; omega
  rw [List.append_assoc, List.set_append_right _ _ (by rw [e]; omega), e, Nat.add_sub_cancel_left, List.set_append_right _ _ (Nat.le_refl _), Nat.sub_self, List.drop_eq_getElem_cons h, List.set_cons_zero]
  simp [Nat.add_assoc]
theorem patch_nil (lo : List Nat) (k : Nat) : patch lo k [] = lo := by simp [patch]
theorem grownBy_setCell {w wr : World} {g : Nat} (h : w.grownBy wr (some g)) (j : Nat) (v : Value) : w.grownBy (wr.setCell ⟨g, j, none⟩ v) (some g) :=
  ⟨h.os, h.tape, h.output, by rw [World.size_setCell]; exact h.size, fun k hk hne => (Below.heap_setCell wr ⟨g, j, none⟩ v k (fun e => hne (by rw [e]))).trans (h.block k hk hne)⟩
theorem grownBy_refl (w : World) (r : Option Nat) : w.grownBy w r := ⟨rfl, rfl, rfl, Nat.le_refl _, fun _ _ _ => rfl⟩
theorem MulRel.step {w : World} {B g k cap : Nat} {la lo : List Nat} {n i : Nat} {os : List Nat} {cy : Nat} {wr : World} (h : MulRel w B g k cap la lo n i os cy wr) (hk : k + la.length ≤ lo.length) (hi : i < la.length) (x o o2 cy2 j : Nat) (hx : la.getD i 0 = x) (ho : lo.getD (k + i) 0 = o)
    (hs : o2 + 18446744073709551616 * cy2 = x * n + cy + o) (hl : o2 < 18446744073709551616) (v : Int) (hv : v = (o2 : Int)) (hj : j = k + i) : MulRel w B g k cap la lo n (i + 1) (os ++ [o2]) cy2 (wr.setCell ⟨g, j, none⟩ (.int .u64 v)) := by
  subst hj
  obtain ⟨hos, hlo, hval, hown, hg⟩ := h
  refine ⟨by simp [hos], hlo.append (Limbs.cons hl Limbs.nil), muls_step la (lo.drop k) os n i cy x o o2 cy2 hos hval hx (by rw [getD_drop]; exact ho) hs, ?_, grownBy_setCell hg _ _⟩
  have := OwnL.store hown (k + i) _ v hv
  rw [← hos, patch_set lo os k _ (by omega)] at this
  rw [← hos]
  exact this
theorem Arr.grown {w w' : World} {a : Option Addr} {c : Nat} {l : List Nat} {g : Nat} (h : Arr w a c l) (hg : w.grownBy w' (some g)) (hne : ∀ b off, a = some ⟨b, off, none⟩ → 0 < l.length → b ≠ g) : Arr w' a c l := by
  obtain ⟨h1, h2, h3, h4⟩ := h
  refine ⟨h1, h2, h3, fun j hj => ?_⟩
  obtain ⟨b, off, ha, hc⟩ := h4 j hj
  exact ⟨b, off, ha, hg.cell hc (by simpa using hne b off ha (by omega))⟩

theorem mul_facts (x n cy o : Nat) (hxl : x < 18446744073709551616) (hnl : n < 18446744073709551616) (hcy : cy < 18446744073709551616) (hol : o < 18446744073709551616) (hPb : x * n ≤ 18446744073709551615 * 18446744073709551615) :
    ∃ h l l2 c o2 c2 : Nat, (∀ w, Calls Tryd.prog 73 #[.int .u64 (x : Int), .int .u64 (n : Int)] w fun e w' => e = .returned (.tuple #[.int .u64 (h : Int), .int .u64 (l : Int)]) ∧ w = w') ∧
      (∀ w, Sem.run Tryd.prog (callFunc 51 #[.int .u64 (l : Int), .int .u64 (cy : Int), .int .u64 0]) w = .ok (.value (.tuple #[.int .u64 (l2 : Int), .int .u64 (c : Int)])) w) ∧
      (∀ w, Sem.run Tryd.prog (callFunc 51 #[.int .u64 (o : Int), .int .u64 (l2 : Int), .int .u64 0]) w = .ok (.value (.tuple #[.int .u64 (o2 : Int), .int .u64 (c2 : Int)])) w) ∧
      h + c < 18446744073709551616 ∧ h + c + c2 < 18446744073709551616 ∧ o2 + 18446744073709551616 * (h + c + c2) = x * n + cy + o ∧ o2 < 18446744073709551616 := by
  have hM := fun w' => mul64_any x n w' hxl hnl
  generalize x * n = P at *
  refine ⟨P / 18446744073709551616, P % 18446744073709551616, (P % 18446744073709551616 + cy) % 18446744073709551616, (P % 18446744073709551616 + cy) / 18446744073709551616,
    (o + (P % 18446744073709551616 + cy) % 18446744073709551616) % 18446744073709551616, (o + (P % 18446744073709551616 + cy) % 18446744073709551616) / 18446744073709551616, hM, fun w => ?_, fun w => ?_, by omega, by omega, by omega, by omega⟩
  · rw [run_add _ _ _ (by omega) (by omega) (by decide) (by decide)]; simp
  · rw [run_add _ _ _ (by omega) (by omega) (by decide) (by decide)]; simp

set_option maxHeartbeats 4000000 in
theorem mul_any (B g k no co cap : Nat) (a : Option Addr) (c n : Nat) (la lo : List Nat) (w : World) (hA : Arr w a c la) (hO : OwnL w B (.slice (some ⟨g, 0, none⟩) lo.length cap) lo) (hne : ∀ b off, a = some ⟨b, off, none⟩ → 0 < la.length → b ≠ g) (hk : k + la.length ≤ lo.length) (hno : la.length ≤ no) (hll : Limbs lo) (hbig : lo.length ≤ 1000000) (hnl : n < 18446744073709551616) :
    Calls Tryd.prog 58 #[.slice (some ⟨g, k, none⟩) no co, .slice a la.length c, .int .u64 (n : Int)] w fun e w' => ∃ (os : List Nat) (cy : Nat), e = .returned (.int .u64 (cy : Int)) ∧ cy < 18446744073709551616 ∧ os.length = la.length ∧ Limbs os ∧
      valL os + 18446744073709551616 ^ la.length * cy = valL ((lo.drop k).take la.length) + valL la * n ∧ OwnL w' B (.slice (some ⟨g, 0, none⟩) lo.length cap) (patch lo k os) ∧ w.grownBy w' (some g) := by
  have HA : Hid (∀ wr, w.grownBy wr (some g) → Arr wr a c la) := Lib.hid fun wr h => Arr.grown hA h hne
  obtain ⟨n1, hn1⟩ : ∃ n1, la.length = n1 := ⟨_, rfl⟩
  have Hn1 := Lib.hid hn1
  have HO := Lib.hid hO
  have Hk := Lib.hid hk
  have Hll := Lib.hid hll
  rw [hn1] at hk hno
  rw [hn1]
  have hnb : n1 ≤ 1000000 := by omega
  clear hA hO hne hn1 hll
  go_enter Tryd.func58, Tryd.ntmps58
  go_wp2_with fail
  go_loopw [7, 14] (fun u v wr => ∃ (i : Nat) (os : List Nat) (cy : Nat), i ≤ n1 ∧ v = .int .i64 (i : Int) ∧ u = .int .u64 (cy : Int) ∧ cy < 18446744073709551616 ∧ Hid (MulRel w B g k cap la lo n i os cy wr)) (fun _ v _ => n1 - (intOf v).toNat)
  case atStart => exact ⟨0, [], 0, Nat.zero_le _, rfl, rfl, by omega, Lib.hid ⟨rfl, Limbs.nil, by simp [valL], by rw [patch_nil]; exact HO.out, grownBy_refl _ _⟩⟩
  case round =>
    obtain ⟨i, os, cy, hi, rfl, rfl, hcy, hR⟩ := hrel
    by_cases hlt : i < n1
    · obtain ⟨b1, o1, ea, hc1⟩ := (HA.out wr hR.out.grown).2.2.2 i (by have := Hn1.out; omega)
      obtain ⟨x, hx⟩ : ∃ x, la.getD i 0 = x := ⟨_, rfl⟩
      obtain ⟨o, ho⟩ : ∃ x, lo.getD (k + i) 0 = x := ⟨_, rfl⟩
      have hxl : x < 18446744073709551616 := by rw [← hx]; exact (HA.out wr hR.out.grown).2.2.1.get i
      have hol : o < 18446744073709551616 := by rw [← ho]; exact Hll.out.get _
      have HX := Lib.hid hx
      have HY := Lib.hid ho
      rw [hx] at hc1
      have hco : wr.cell? ⟨g, k + i, none⟩ = some (.int .u64 (o : Int)) := by
        refine OwnL.cell hR.out.own (k + i) o ?_
        have h1 := hR.out.len
        have h2 := Hn1.out
        have h3 := Hk.out
        rw [← h1, patch_at lo os k (by omega), h1, List.getElem?_eq_getElem (by omega), ← HY.out]
        simp [List.getD, show k + i < lo.length by omega]
      have hfo := OwnL.thaw hR.out.own (k + i)
      subst ea
      have hPb := Nat.mul_le_mul (show x ≤ 18446744073709551615 by omega) (show n ≤ 18446744073709551615 by omega)
      obtain ⟨h, l, l2, c', o2, c2, hM, hadd1, hadd2, hb1, hb2, hlimb, ho2⟩ := mul_facts x n cy o hxl hnl hcy hol hPb
      have HLM := Lib.hid hlimb
      clear hx ho hPb hlimb
      go_wp2_with (go_at_call 73; (with_reducible refine (hM _).mono ?_); rintro e w' ⟨rfl, rfl⟩)
      go_roundw
      case rel => exact ⟨i + 1, os ++ [o2], h + c' + c2, by omega, by go_num, by go_num, by omega, Lib.hid (MulRel.step hR.out Hk.out (by have := Hn1.out; omega) x o o2 (h + c' + c2) (k + i) HX.out HY.out HLM.out ho2 _ rfl rfl)⟩
      case measure => simp [intOf]; omega
    · obtain rfl : i = n1 := by omega
      go_wp2_with fail
      go_ret
      have hv := hR.out.val
      have hl := hR.out.len
      rw [show la.take i = la by rw [← Hn1.out, List.take_length]] at hv
      exact ⟨os, cy, rfl, hcy, hl, hR.out.limbs, hv, hR.out.own, hR.out.grown⟩
end Go.Proofs.YtjfjkabmpiebpaaDoor
