/-
  A text's word, in plain words: 'readI'; it is there just if the text is a word's.
-/
import Derived.Test.YtaeognfpmhfmgaaDoorBitsU
set_option linter.unusedSimpArgs false
set_option linter.unusedVariables false
namespace Go.Plumb
/-- A digit's worth. -/
def hexval (b : UInt8) : Option Int := if 48 ≤ b.toNat ∧ b.toNat ≤ 57 then some (b.toNat - 48) else if 65 ≤ b.toNat ∧ b.toNat ≤ 70 then some (b.toNat - 55) else none
def readFrom : List UInt8 → Int → Option Int
  | [], acc => some acc
  | b :: l, acc => match hexval b with | none => none | some d => readFrom l (acc * 16 + d)
def readI (s : ByteArray) : Option Int := if s.size = 16 then readFrom s.data.toList 0 else none
def readV (s : ByteArray) : Int := (readI s).getD 0
def readE (s : ByteArray) : Int := if (readI s).isSome then 0 else 4

theorem hexval_some {b : UInt8} {d : Int} (h : hexval b = some d) : 0 ≤ d ∧ d < 16 ∧ hexd d = b.toNat := by
  unfold hexval at h
  unfold hexd
  split at h
  · cases h; split <;> omega
  · split at h
    · cases h; split <;> omega
    · cases h
theorem hexval_hexd (d : Int) (h0 : 0 ≤ d) (h1 : d < 16) : hexval (UInt8.ofNat (hexd d).toNat) = some d := by
  have hh : 0 ≤ hexd d ∧ hexd d < 256 := by unfold hexd; split <;> omega
  have : (UInt8.ofNat (hexd d).toNat).toNat = (hexd d).toNat := by
    rw [UInt8.toNat_ofNat']; omega
  unfold hexval
  rw [this]
  unfold hexd at *
  split <;> (split <;> first | (congr 1; omega) | omega | (split <;> first | (congr 1; omega) | omega))
theorem readFrom_append (l : List UInt8) : ∀ (m : List UInt8) (acc : Int), readFrom (l ++ m) acc = (readFrom l acc).bind (readFrom m) := by
  induction l with
  | nil => intro m acc; rfl
  | cons b l ih =>
    intro m acc
    show (match hexval b with | none => none | some d => readFrom (l ++ m) (acc * 16 + d)) = (match hexval b with | none => none | some d => readFrom l (acc * 16 + d)).bind (readFrom m)
    cases hexval b with
    | none => rfl
    | some d => exact ih m _
theorem readFrom_bound : ∀ (l : List UInt8) (acc W : Int), 0 ≤ acc → readFrom l acc = some W → acc * 16 ^ l.length ≤ W ∧ W < (acc + 1) * 16 ^ l.length
  | [], acc, W, h0, h => by
    cases h; simp; omega
  | b :: l, acc, W, h0, h => by
    unfold readFrom at h
    cases hb : hexval b with
    | none => rw [hb] at h; cases h
    | some d =>
      rw [hb] at h
      obtain ⟨d0, d1, _⟩ := hexval_some hb
      have ih := readFrom_bound l _ W (by omega) h
      have hp : (0 : Int) < 16 ^ l.length := Int.pow_pos (by decide)
      rw [List.length_cons, Int.pow_succ]
      generalize (16 : Int) ^ l.length = p at *
      have e1 : acc * (p * 16) = (acc * 16) * p := by rw [Int.mul_comm p 16, ← Int.mul_assoc]
      have e2 : (acc + 1) * (p * 16) = (acc * 16 + 16) * p := by rw [Int.mul_comm p 16, ← Int.mul_assoc, Int.add_mul]; rfl
      rw [e1, e2]
      have a1 : (acc * 16) * p ≤ (acc * 16 + d) * p := Int.mul_le_mul_of_nonneg_right (by omega) (by omega)
      have a2 : (acc * 16 + d + 1) * p ≤ (acc * 16 + 16) * p := Int.mul_le_mul_of_nonneg_right (by omega) (by omega)
      omega

/-- The first k digits of a word. -/
theorem readFrom_range (x : Int) (h0 : 0 ≤ x) : ∀ (k : Nat), k ≤ 16 → readFrom ((List.range k).map fun i => UInt8.ofNat (hexd (x / 2 ^ (60 - 4 * i) % 16)).toNat) (x / 2 ^ 64) = some (x / 2 ^ (64 - 4 * k))
  | 0, _ => by simp [readFrom]
  | k + 1, hk => by
    rw [List.range_succ, List.map_append, readFrom_append, readFrom_range x h0 k (by omega)]
    simp only [List.map_cons, List.map_nil, Option.bind_some]
    unfold readFrom
    rw [hexval_hexd _ (by omega) (by omega)]
    show some _ = some _
    congr 1
    have e : (2 : Int) ^ (64 - 4 * k) = 2 ^ (60 - 4 * k) * 16 := by
      rw [show 64 - 4 * k = (60 - 4 * k) + 4 by omega, Int.pow_add]; rfl
    have e' : 64 - 4 * (k + 1) = 60 - 4 * k := by omega
    rw [e, e', ← Int.ediv_ediv_of_nonneg (Int.le_of_lt (Int.pow_pos (by decide)))]
    omega
theorem read_text (x : Int) (h0 : 0 ≤ x) (h1 : x < 18446744073709551616) : readI (textB x) = some x := by
  unfold readI
  have hs : (textB x).size = 16 := by simp [textB, ByteArray.size, textL]
  rw [if_pos hs]
  have := readFrom_range x h0 16 (by omega)
  rw [show x / 2 ^ 64 = 0 by omega] at this
  simpa [textB, textL] using this

theorem textL_of_read : ∀ (k : Nat) (l : List UInt8) (acc W : Int), l.length = k → k ≤ 16 → 0 ≤ acc → readFrom l acc = some W →
    l = (List.range k).map fun i => UInt8.ofNat (hexd (W / 2 ^ (4 * (k - 1 - i)) % 16)).toNat := by
  intro k l acc W hl hk h0 h
  apply List.ext_getElem
  · simp [hl]
  · intro i hi hi'
    simp only [List.getElem_map, List.getElem_range]
    have hsplit : l = l.take i ++ l[i] :: l.drop (i + 1) := by
      rw [← List.drop_eq_getElem_cons hi, List.take_append_drop]
    rw [hsplit, readFrom_append] at h
    cases hA : readFrom (l.take i) acc with
    | none => rw [hA] at h; cases h
    | some A =>
      rw [hA] at h
      simp only [Option.bind_some] at h
      have hA0 := readFrom_bound _ _ _ h0 hA
      have hAn : 0 ≤ A := by
        have : 0 ≤ acc * 16 ^ (l.take i).length := Int.mul_nonneg h0 (Int.le_of_lt (Int.pow_pos (by decide)))
        omega
      unfold readFrom at h
      cases hb : hexval l[i] with
      | none => rw [hb] at h; cases h
      | some d =>
        rw [hb] at h
        obtain ⟨d0, d1, d2⟩ := hexval_some hb
        have hB := readFrom_bound _ _ _ (by omega) h
        have hlen : (l.drop (i + 1)).length = k - 1 - i := by simp [hl]; omega
        rw [hlen] at hB
        have hp : (16 : Int) ^ (k - 1 - i) = 2 ^ (4 * (k - 1 - i)) := by rw [Int.pow_mul]; rfl
        rw [hp] at hB
        have hpos : (0 : Int) < 2 ^ (4 * (k - 1 - i)) := Int.pow_pos (by decide)
        have hdiv : W / 2 ^ (4 * (k - 1 - i)) = A * 16 + d := by
          rw [Int.ediv_eq_iff_of_pos hpos]
          rw [Int.add_mul (A * 16 + d) 1, Int.one_mul] at hB
          exact hB
        rw [hdiv]
        have : (A * 16 + d) % 16 = d := by omega
        rw [this, d2]
        apply UInt8.toNat_inj.1
        rw [UInt8.toNat_ofNat']
        have := l[i].toNat_lt
        omega
theorem text_of_read (s : ByteArray) (W : Int) (h : readI s = some W) : textB W = s ∧ 0 ≤ W ∧ W < 18446744073709551616 := by
  unfold readI at h
  split at h
  · rename_i hs
    have hl : s.data.toList.length = 16 := by simpa using hs
    have hb := readFrom_bound _ _ _ (by omega) h
    rw [hl] at hb
    refine ⟨?_, by omega, by omega⟩
    have := textL_of_read 16 s.data.toList 0 W hl (by omega) (by omega) h
    have e : textL W = s.data.toList := by
      rw [this]
      unfold textL
      apply List.map_congr_left
      intro i hi
      have : i < 16 := by simpa using hi
      rw [show 4 * (16 - 1 - i) = 60 - 4 * i by omega]
    unfold textB
    rw [e]
  · cases h
end Go.Plumb
