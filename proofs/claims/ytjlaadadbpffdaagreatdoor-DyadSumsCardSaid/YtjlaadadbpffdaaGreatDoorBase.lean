/-
  What every seat's texts share: small facts on words and bits, and the closing of a law ('law_post'). Nothing of the program stands here.
-/
import Derived.WalkKit
import Derived.WalkSpells
import Derived.WalkLawsBesides
import Derived.ProofKit
import Derived.OpenShut
import Derived.Deep.DeepHandedRow
import Derived.Lib.LaidTab
import Derived.Lib.Hide
import Derived.Lib.BitFns
import Derived.Lib.TrailingZeros
import Derived.Deep.QuietTactic
import Derived.BigQuiet
import Derived.Deep.RegionWith
import Derived.Deep.RegionHeld3
import Derived.StillTailTactics
set_option linter.unusedSimpArgs false
set_option linter.unusedVariables false
namespace Go.Plumb
open Go.ChangeShapes Go.WideShapes Go.ChangeAt Go.RowKit

/-! ### Words: bits of 64 -/
theorem nat64 {x : Int} (h0 : 0 ≤ x) (h1 : x < 18446744073709551616) : ∃ n : Nat, x = (n : Int) ∧ n < 18446744073709551616 := by
  obtain ⟨n, rfl⟩ := Int.eq_ofNat_of_zero_le h0
  exact ⟨n, rfl, by omega⟩

theorem and_mask (i : Nat) (hi : i ≤ 64) {x : Int} (h0 : 0 ≤ x) (h1 : x < 18446744073709551616) : bits .and .u64 x (2 ^ i - 1) = x % 2 ^ i :=
  bits_mask .u64 64 (by decide) (fun n a b => by rw [IntKind.wrap_u64]; omega) i hi x h0 (by simpa using h1)

theorem and_least {x : Int} (h0 : 0 ≤ x) (h1 : x < 18446744073709551616) : bits .and .u64 x 4503599627370495 = x % 4503599627370496 := and_mask 52 (by decide) h0 h1
theorem and_2047 {x : Int} (h0 : 0 ≤ x) (h1 : x < 18446744073709551616) : bits .and .u64 x 2047 = x % 2048 := and_mask 11 (by decide) h0 h1
theorem and_15 {x : Int} (h0 : 0 ≤ x) (h1 : x < 18446744073709551616) : bits .and .u64 x 15 = x % 16 := and_mask 4 (by decide) h0 h1
theorem and_1 {x : Int} (h0 : 0 ≤ x) (h1 : x < 18446744073709551616) : bits .and .u64 x 1 = x % 2 := and_mask 1 (by decide) h0 h1

theorem or_join (i : Nat) {x y : Int} (hx0 : 0 ≤ x) (hx : x % 2 ^ i = 0) (hx1 : x < 18446744073709551616) (hy0 : 0 ≤ y) (hy : y < 2 ^ i) (hy1 : y < 18446744073709551616) : bits .or .u64 x y = x + y :=
  bits_join .u64 64 (by decide) (fun n a b => by rw [IntKind.wrap_u64]; omega) i x y hx0 hx (by simpa using hx1) hy0 hy (by simpa using hy1)
theorem or_comm64 {x y : Int} (hx0 : 0 ≤ x) (hx1 : x < 18446744073709551616) (hy0 : 0 ≤ y) (hy1 : y < 18446744073709551616) : bits .or .u64 x y = bits .or .u64 y x := by
  obtain ⟨a, rfl, ha⟩ := nat64 hx0 hx1
  obtain ⟨b, rfl, hb⟩ := nat64 hy0 hy1
  rw [bits_or_u64_nat a b ha hb, bits_or_u64_nat b a hb ha, Nat.or_comm]
theorem or_least {x : Int} (h0 : 0 ≤ x) (h1 : x < 4503599627370496) : bits .or .u64 x 4503599627370496 = 4503599627370496 + x := by
  rw [or_comm64 h0 (by omega) (by decide) (by decide)]
  exact or_join 52 (by decide) (by decide) (by decide) h0 (by simpa using h1) (by omega)
theorem or_sign {x : Int} (h0 : 0 ≤ x) (h1 : x < 9223372036854775808) : bits .or .u64 x 9223372036854775808 = 9223372036854775808 + x := by
  rw [or_comm64 h0 (by omega) (by decide) (by decide)]
  exact or_join 63 (by decide) (by decide) (by decide) h0 (by simpa using h1) (by omega)
theorem xor_sign {x : Int} (h0 : 0 ≤ x) (h1 : x < 18446744073709551616) : bits .xor .u64 x 9223372036854775808 = (x + 9223372036854775808) % 18446744073709551616 := by
  obtain ⟨a, rfl, ha⟩ := nat64 h0 h1
  have h := bits_xor_u64_nat a 9223372036854775808 ha (by decide)
  have e : ((9223372036854775808 : Nat) : Int) = 9223372036854775808 := rfl
  rw [e] at h
  rw [h]
  have k : a ^^^ 9223372036854775808 = (a + 9223372036854775808) % 18446744073709551616 := by
    have hb : (BitVec.ofNat 64 a ^^^ 9223372036854775808#64) = BitVec.ofNat 64 a + 9223372036854775808#64 := by
      generalize BitVec.ofNat 64 a = v
      have h2 : (9223372036854775808#64) = BitVec.intMin 64 := by decide
      apply BitVec.eq_of_toNat_eq
      rw [BitVec.toNat_xor, BitVec.toNat_add]
      have hv := v.isLt
      generalize v.toNat = m at hv
      show m ^^^ 9223372036854775808 = (m + 9223372036854775808) % 18446744073709551616
      rcases Nat.lt_or_ge m 9223372036854775808 with hm | hm
      · have := Nat.two_pow_add_eq_or_of_lt (i := 63) (b := m) (by simpa using hm) 1
        have hx : m ^^^ 9223372036854775808 = 9223372036854775808 + m := by
          have h3 : (9223372036854775808 : Nat) = 2 ^ 63 * 1 := by decide
          rw [h3, this]
          apply Nat.eq_of_testBit_eq
          intro j
          rw [Nat.testBit_xor, Nat.testBit_or]
          by_cases hj : j = 63
          · subst hj
            have : m.testBit 63 = false := Nat.testBit_lt_two_pow (by simpa using hm)
            rw [this]; simp
          · have : (2 ^ 63 * 1).testBit j = false := by
              rw [Nat.mul_one, Nat.testBit_two_pow]; simp; omega
            rw [this]; simp
        omega
      · obtain ⟨r, rfl⟩ := Nat.exists_eq_add_of_le hm
        have hr : r < 9223372036854775808 := by omega
        have := Nat.two_pow_add_eq_or_of_lt (i := 63) (b := r) (by simpa using hr) 1
        have hx : (9223372036854775808 + r) ^^^ 9223372036854775808 = r := by
          have h3 : (9223372036854775808 : Nat) = 2 ^ 63 * 1 := by decide
          rw [h3, this]
          apply Nat.eq_of_testBit_eq
          intro j
          rw [Nat.testBit_xor, Nat.testBit_or]
          by_cases hj : j = 63
          · subst hj
            have : r.testBit 63 = false := Nat.testBit_lt_two_pow (by simpa using hr)
            rw [this]; simp
          · have : (2 ^ 63 * 1).testBit j = false := by
              rw [Nat.mul_one, Nat.testBit_two_pow]; simp; omega
            rw [this]; simp
        omega
    have := congrArg BitVec.toNat hb
    rw [BitVec.toNat_xor, BitVec.toNat_add, BitVec.toNat_ofNat, Nat.mod_eq_of_lt (by simpa using ha)] at this
    simpa using this
  rw [k]; simp
theorem andNot_sign {x : Int} (h0 : 0 ≤ x) (h1 : x < 18446744073709551616) : bits .andNot .u64 x 9223372036854775808 = x % 9223372036854775808 := by
  have e : bits .andNot .u64 x 9223372036854775808 = bits .and .u64 x (2 ^ 63 - 1) := by
    unfold bits
    have : ~~~(BitVec.ofInt IntKind.u64.bits 9223372036854775808) = BitVec.ofInt IntKind.u64.bits (2 ^ 63 - 1) := by decide
    simp only [this]
  rw [e, and_mask 63 (by decide) h0 h1]
  rfl

/-! ### Floats as words -/
theorem read_double (b : Nat) : (FloatKind.f64.format.read b).isNaN = decide (9218868437227405312 < b % 9223372036854775808) := by
  have hf : FloatKind.f64.format = Ieee.double := rfl
  have e1 : Ieee.double.signWeight = 9223372036854775808 := by decide
  have e2 : Ieee.double.binade = 4503599627370496 := by decide
  have e3 : Ieee.double.infRung = 9218868437227405312 := by decide
  rw [hf]
  unfold Ieee.Format.read
  simp only [e1, e2, e3]
  split
  · simp only [Ieee.Datum.isNaN]; symm; rw [decide_eq_false_iff_not]; omega
  · split
    · simp only [Ieee.Datum.isNaN]; symm; rw [decide_eq_false_iff_not]; omega
    · split
      · simp only [Ieee.Datum.isNaN]; symm; rw [decide_eq_false_iff_not]; omega
      · simp only [Ieee.Datum.isNaN]; symm; rw [decide_eq_true_eq]; omega

theorem order_self (d : Ieee.Datum) : d.order d = if d.isNaN then none else some .eq := by
  cases d with
  | number s m e => simp [Ieee.Datum.order, Ieee.Datum.isNaN]
  | infinity s => cases s <;> rfl
  | nan s t => rfl

theorem quiet_eq {P : Program} {f : FuncId} {args : Array Value} {w : World} {n : Nat} {v : Value}
    (h : Calls P f args (w.drewN n) fun e w' => e = .returned v ∧ w.drewN n = w') : Calls P f args (w.drewN n) fun e w'' => e = .returned v ∧ ∃ m, w'' = w.drewN m :=
  Calls.quiet_of_same (h.mono fun _ _ ⟨a, b⟩ => ⟨a, b.symm⟩)

/-! ### How many bits -/
def lenN (n : Nat) : Nat := if n = 0 then 0 else n.log2 + 1
/-- How many bits a number has. -/
def lenI (x : Int) : Int := (lenN x.toNat : Int)

theorem bitLenAux_eq : ∀ (f n : Nat), n < 2 ^ f → Lib.bitLenAux f n = lenN n
  | 0, n, h => by
    have : n = 0 := by simp at h; omega
    subst this; rfl
  | f + 1, n, h => by
    unfold Lib.bitLenAux
    by_cases h0 : n = 0
    · simp [h0, lenN]
    · rw [if_neg h0, bitLenAux_eq f (n / 2) (by rw [Nat.pow_succ] at h; omega)]
      unfold lenN
      rw [if_neg h0]
      by_cases h1 : n / 2 = 0
      · have : n = 1 := by omega
        subst this; rfl
      · rw [if_neg h1]
        have : n.log2 = (n / 2).log2 + 1 := by
          rw [Nat.log2_def n, if_pos (by omega)]
        omega
theorem bitLen_lenN (n : Nat) (h : n < 18446744073709551616) : Lib.bitLen n = lenN n := bitLenAux_eq 64 n (by simpa using h)

theorem lenN_le (n k : Nat) (h : n < 2 ^ k) : lenN n ≤ k := by
  unfold lenN
  split
  · omega
  · rename_i h0
    exact (Nat.log2_lt h0).2 h
theorem lt_lenN (n : Nat) : n < 2 ^ lenN n := by
  unfold lenN
  split
  · rename_i h; subst h; decide
  · exact Nat.lt_log2_self
theorem lenN_ge (n : Nat) (h : n ≠ 0) : 2 ^ (lenN n - 1) ≤ n := by
  unfold lenN
  rw [if_neg h]
  exact Nat.log2_self_le h
theorem lenN_eq {n k : Nat} (h1 : 2 ^ k ≤ n) (h2 : n < 2 ^ (k + 1)) : lenN n = k + 1 := by
  have h0 : n ≠ 0 := by have := Nat.two_pow_pos k; omega
  unfold lenN
  rw [if_neg h0, (Nat.log2_eq_iff h0).2 ⟨h1, h2⟩]

/-! ### 'Below' from the world in which the walk began -/
theorem below_alloc {w0 w : World} (h : Below w0.heap.size w0 w) (o : Obj) : Below w0.heap.size w0 (w.alloc o) := h.alloc h.size o
/-- A contract that says 'Below' of its own world, said of the world in which the caller's walk began. -/
theorem from_below {P : Program} {f : FuncId} {args : Array Value} {w : World} {R : Ending → Prop} (h : Calls P f args w fun e w' => R e ∧ Below w.heap.size w w') {w0 : World} (h0 : Below w0.heap.size w0 w) :
    Calls P f args w fun e w' => R e ∧ Below w0.heap.size w0 w' := h.mono fun _ _ ⟨a, b⟩ => ⟨a, h0.trans (b.mono h0.size)⟩

theorem below_step {w0 w1 w2 : World} (h0 : Below w0.heap.size w0 w1) (h : Below w1.heap.size w1 w2) : Below w0.heap.size w0 w2 := h0.trans (h.mono h0.size)
/-- Behind a callee: each old cell, each old mark, reads as it did. -/
theorem bcell {W w1 : World} (hb : Below W.heap.size W w1) : (∀ b o, b < W.heap.size → w1.cell? ⟨b, o, none⟩ = W.cell? ⟨b, o, none⟩) ∧ (∀ b o, b < W.heap.size → w1.frozen? ⟨b, o, none⟩ = W.frozen? ⟨b, o, none⟩) :=
  ⟨fun b o h => hb.cell (p := ⟨b, o, none⟩) h, fun b o h => hb.frozen (p := ⟨b, o, none⟩) h⟩

/-! ### A law's end -/
/-- What a law's call must do: it answers true, and below the heap's old size nothing has turned. -/
def Holds (P : Program) (f : FuncId) (args : Array Value) (W : World) : Prop :=
  Calls P f args W fun e W' => e = .returned (.bool true) ∧ Below W.heap.size W W'

theorem trod_all_below {H : Type} {enc : TypeId × Value → H} {P : Program} (hl : laidOutB P = true) {W W' : World} (hb : Below W.heap.size W W') :
    ∀ (ts : List TypeId) (vs : List Value) (ds : List (DataW H)) (ps : List MemPlace), ts.all (fun t => P.readableRec t && decide (t < P.types.size)) = true →
      DataW.TrodAll enc P W 0 (fun _ => true) true ts vs ds ps → (∀ x ∈ ps, x.block < W.heap.size) →
      DataW.TrodAll enc P W' 0 (fun b => decide (b < W.heap.size)) true ts vs ds ps
  | [], [], [], _, _, h, _ => h
  | t :: ts, v :: vs, d :: ds, ps, ht, ⟨p, q, h1, h2, hp⟩, hlt => by
    subst hp
    simp only [List.all_cons, Bool.and_eq_true, decide_eq_true_eq] at ht
    exact ⟨p, q, Below.trod hl ht.1.1 ht.1.2 h1 hb (fun x hx => hlt x (by simp [hx])), trod_all_below hl hb ts vs ds q ht.2 h2 (fun x hx => hlt x (by simp [hx])), rfl⟩

/-- A LAW's POST: the call answered true, and below the heap's old size nothing has turned. -/
theorem law_post {H : Type} {enc : TypeId × Value → H} {P : Program} {f : Func} {s : ChangeSpec} {W W' : World} {args : Array Value} {ds gs : List (DataW H)} {before : List MemPlace} {tb : TypeId}
    (hl : laidOutB P = true) (hpar : f.params.toList.all (fun t => P.readableRec t && decide (t < P.types.size)) = true)
    (hres : f.resultTypes = #[tb]) (htb : P.underlying tb = some .bool) (hvars : s.vars = [])
    (hW : DataW.Whole enc P f.params.toList s.vars false W args.toList ds gs before)
    (hspec : ∀ ds : List (DataW H), ds.length = f.params.size → s.fn H ds = { results := [.lit (.bool true)], args := ds })
    (hb : Below W.heap.size W W') : s.post enc P f false true false false W args (.bool true) W' := by
  have hW' := hW
  have hlt : ∀ p ∈ before, p.block < W.heap.size := fun p hp => hW.lt p hp
  obtain ⟨p, q, hA, hV, rfl, hz, hn⟩ := hW
  rw [hvars] at hV
  obtain ⟨rfl, rfl⟩ := trodVars_none hV
  have hlen : ∀ (ts : List TypeId) (vs : List Value) (ds : List (DataW H)) (ps : List MemPlace), DataW.TrodAll enc P W 0 (fun _ => true) true ts vs ds ps → ds.length = ts.length := by
    intro ts
    induction ts with
    | nil => intro vs ds ps h; cases vs <;> cases ds <;> simp_all [DataW.TrodAll]
    | cons t ts ih =>
      intro vs ds ps h
      cases vs with
      | nil => simp [DataW.TrodAll] at h
      | cons v vs =>
        cases ds with
        | nil => simp [DataW.TrodAll] at h
        | cons d ds =>
          obtain ⟨p, q, _, h2, _⟩ := h
          simp [ih vs ds q h2]
  have hd := hlen _ _ _ _ hA
  have hs := hspec ds (by simpa using hd)
  refine ⟨ds, [], p ++ [], [], p, [], hW', ?_, ?_, ?_, hb.frame _, fun h => by cases h⟩
  · rw [List.append_nil, hs, hres]
    exact trodAll_mk1 (shut_bool htb _)
  · rw [List.append_nil, hs]
    exact trod_all_below hl hb _ _ _ _ hpar hA (fun x hx => hlt x (by simp [hx]))
  · rw [List.append_nil, hs, hvars]
    rfl

end Go.Plumb
