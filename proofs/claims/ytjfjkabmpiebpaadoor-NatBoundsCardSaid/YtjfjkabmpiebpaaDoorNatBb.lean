/-
  Reading decimal digits: what a text's number is, in plain Lean.
-/
import Derived.Test.YtjfjkabmpiebpaaDoorNatBa
set_option linter.unusedSimpArgs false
set_option linter.unusedVariables false
namespace Go.Plumb
def decV (l : List UInt8) : Nat := l.foldl (fun n b => 10 * n + (b.toNat - 48)) 0
def DigL (l : List UInt8) : Prop := ∀ b ∈ l, 48 ≤ b.toNat ∧ b.toNat ≤ 57
def okT (l : List UInt8) : Prop := 1 ≤ l.length ∧ ¬ (1 < l.length ∧ (l.getD 0 0).toNat = 48) ∧ DigL l
open Classical in
noncomputable def readVN (l : List UInt8) : Nat := if okT l then decV l else 0
open Classical in
noncomputable def readEN (l : List UInt8) : Int := if okT l then 0 else 2
theorem readVN_ok {l : List UInt8} (h : okT l) : readVN l = decV l := by unfold readVN; rw [if_pos h]
theorem readEN_ok {l : List UInt8} (h : okT l) : readEN l = 0 := by unfold readEN; rw [if_pos h]
theorem readVN_bad {l : List UInt8} (h : ¬ okT l) : readVN l = 0 := by unfold readVN; rw [if_neg h]
theorem readEN_bad {l : List UInt8} (h : ¬ okT l) : readEN l = 2 := by unfold readEN; rw [if_neg h]
theorem decV_nil : decV [] = 0 := rfl
theorem decV_snoc (l : List UInt8) (b : UInt8) : decV (l ++ [b]) = 10 * decV l + (b.toNat - 48) := by
  unfold decV; rw [List.foldl_append]; rfl
theorem decV_fold (m : List UInt8) : ∀ n : Nat, m.foldl (fun n b => 10 * n + (b.toNat - 48)) n = n * 10 ^ m.length + decV m := by
  induction m with
  | nil => intro n; simp [decV]
  | cons b m ih =>
    intro n
    unfold decV
    rw [List.foldl_cons, List.foldl_cons, ih, ih (10 * 0 + (b.toNat - 48)), List.length_cons, Nat.pow_succ]
    generalize 10 ^ m.length = p
    generalize decV m = d
    generalize b.toNat - 48 = x
    rw [Nat.add_mul, Nat.mul_zero, Nat.zero_add]
    have : 10 * n * p = n * (p * 10) := by rw [Nat.mul_comm 10 n, Nat.mul_assoc, Nat.mul_comm 10 p]
    omega
theorem decV_append (l m : List UInt8) : decV (l ++ m) = decV l * 10 ^ m.length + decV m := by
  have := decV_fold m (decV l)
  rw [← this]
  unfold decV
  rw [List.foldl_append]
theorem decV_lt (l : List UInt8) (h : DigL l) : decV l < 10 ^ l.length := by
  obtain ⟨n, hn⟩ : ∃ n, l.length = n := ⟨_, rfl⟩
  induction n generalizing l with
  | zero =>
    obtain rfl := List.eq_nil_of_length_eq_zero hn
    simp [decV]
  | succ n ih =>
    have hne : l ≠ [] := by intro e; subst e; simp at hn
    obtain ⟨m, b, rfl⟩ : ∃ m b, l = m ++ [b] := ⟨l.dropLast, l.getLast hne, (List.dropLast_concat_getLast hne).symm⟩
    have hm : m.length = n := by simpa using hn
    have h1 := ih m (fun x hx => h x (List.mem_append_left _ hx)) hm
    have h2 := h b (by simp)
    rw [decV_snoc, List.length_append, List.length_singleton, Nat.pow_succ]
    omega
theorem decV_take (l : List UInt8) (i : Nat) (hi : i < l.length) : decV (l.take (i + 1)) = 10 * decV (l.take i) + ((l.getD i 0).toNat - 48) := by
  rw [List.take_succ_eq_append_getElem hi, decV_snoc]
  simp [List.getD, hi]
theorem DigL.take {l : List UInt8} (h : DigL l) (i : Nat) : DigL (l.take i) := fun b hb => h b (List.mem_of_mem_take hb)
theorem DigL.get {l : List UInt8} (h : DigL l) (i : Nat) (hi : i < l.length) : 48 ≤ (l[i]'hi).toNat ∧ (l[i]'hi).toNat ≤ 57 := h _ (List.getElem_mem hi)
theorem DigL.of_get {l : List UInt8} (h : ∀ (i : Nat) (hi : i < l.length), 48 ≤ (l[i]'hi).toNat ∧ (l[i]'hi).toNat ≤ 57) : DigL l := by
  intro b hb
  obtain ⟨i, hi, rfl⟩ := List.getElem_of_mem hb
  exact h i hi
theorem ten_limbs (k n : Nat) (h : n < 10 ^ k) : (limbs n).length ≤ k := by
  apply length_limbs_le
  exact Nat.lt_of_lt_of_le h (Nat.pow_le_pow_left (by decide) k)
theorem byte_list (s : ByteArray) (i : Nat) (hi : i < s.size) : s.data.toList[i]'(by simpa using hi) = s[i]'hi := by simp [ByteArray.getElem_eq_getElem_data]
end Go.Plumb
