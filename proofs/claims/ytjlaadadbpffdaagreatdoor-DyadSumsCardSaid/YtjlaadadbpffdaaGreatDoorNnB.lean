/-
  NatBa, NatBb, NatBc, NatBd, NatBe, NatBf, NatBg: as one text.
-/
import Derived.Test.YtjlaadadbpffdaaGreatDoorNnY
import Derived.RangeFuncNested
import Derived.RangeFuncBound
import Derived.RangeFuncCalls
import Derived.RangeFuncLeaves
import Derived.RangeFuncBox
import Derived.OwnWalkIn
import Derived.TacticsInMore
import Derived.LoopNIn
import Derived.LoopIn
import Derived.Maps.AppendAt
import Derived.Lib.TrimByte
import Derived.Lib.Walk
import Derived.Laws.Strings3
set_option linter.unusedSimpArgs false
set_option linter.unusedVariables false
namespace Go.Proofs.YtjlaadadbpffdaaGreatDoor
open Go.RowKit Go.Plumb

theorem rev_facts (N i j M : Nat) (hN : (N : Int) ≤ 20000) (hM : N / 2 = M) (hj : N - 1 - i = j) (hi : i < M) :
    IntKind.i64.wrap ((N : Int) - 1) = (N : Int) - 1 ∧ IntKind.i64.wrap (j : Int) = (j : Int) ∧ (N : Int) - 1 - (i : Int) = (j : Int) ∧ j < N ∧ i < N ∧ wrap64 ((i : Int) + 1) = ((i + 1 : Nat) : Int) ∧ i + 1 ≤ N / 2 ∧ N - (((i + 1 : Nat) : Int)).toNat < N - ((i : Int)).toNat :=
  ⟨IntWalk.i64_in _ ⟨by omega, by omega⟩, IntWalk.i64_in _ ⟨by omega, by omega⟩, by omega, by omega, by omega, (IntWalk.wrap64_in _ ⟨by omega, by omega⟩).trans (by omega), by omega, by omega⟩

end Go.Proofs.YtjlaadadbpffdaaGreatDoor

namespace Go.Plumb
def decV (l : List UInt8) : Nat := l.foldl (fun n b => 10 * n + (b.toNat - 48)) 0
def DigL (l : List UInt8) : Prop := ∀ b ∈ l, 48 ≤ b.toNat ∧ b.toNat ≤ 57
def okT (l : List UInt8) : Prop := 1 ≤ l.length ∧ ¬ (1 < l.length ∧ (l.getD 0 0).toNat = 48) ∧ DigL l
open Classical in
noncomputable def readVN (l : List UInt8) : Nat := if okT l then decV l else 0
open Classical in
noncomputable def readEN (l : List UInt8) : Int := if okT l then 0 else 2
theorem readVN_ok {l : List UInt8} (h : okT l) : readVN l = decV l := by unfold readVN; rw [if_pos h]
theorem readEN_ok {l : List UInt8} (h : okT l) : readEN l = 0 := by unfold readEN; rw [if_pos h]
theorem readVN_bad {l : List UInt8} (h : ¬ okT l) : readVN l = 0 := by unfold readVN; rw [if_neg h]
theorem readEN_bad {l : List UInt8} (h : ¬ okT l) : readEN l = 2 := by unfold readEN; rw [if_neg h]
theorem decV_nil : decV [] = 0 := rfl
theorem decV_snoc (l : List UInt8) (b : UInt8) : decV (l ++ [b]) = 10 * decV l + (b.toNat - 48) := by
  unfold decV; rw [List.foldl_append]; rfl
theorem decV_fold (m : List UInt8) : ∀ n : Nat, m.foldl (fun n b => 10 * n + (b.toNat - 48)) n = n * 10 ^ m.length + decV m := by
  induction m with
  | nil => intro n; simp [decV]
  | cons b m ih =>
    intro n
    unfold decV
    rw [List.foldl_cons, List.foldl_cons, ih, ih (10 * 0 + (b.toNat - 48)), List.length_cons, Nat.pow_succ]
    generalize 10 ^ m.length = p
    generalize decV m = d
    generalize b.toNat - 48 = x
    rw [Nat.add_mul, Nat.mul_zero, Nat.zero_add]
    have : 10 * n * p = n * (p * 10) := by rw [Nat.mul_comm 10 n, Nat.mul_assoc, Nat.mul_comm 10 p]
    omega
theorem decV_append (l m : List UInt8) : decV (l ++ m) = decV l * 10 ^ m.length + decV m := by
  have := decV_fold m (decV l)
  rw [← this]
  unfold decV
  rw [List.foldl_append]
theorem decV_lt (l : List UInt8) (h : DigL l) : decV l < 10 ^ l.length := by
  obtain ⟨n, hn⟩ : ∃ n, l.length = n := ⟨_, rfl⟩
  induction n generalizing l with
  | zero =>
    obtain rfl := List.eq_nil_of_length_eq_zero hn
    simp [decV]
  | succ n ih =>
    have hne : l ≠ [] := by intro e; subst e; simp at hn
    obtain ⟨m, b, rfl⟩ : ∃ m b, l = m ++ [b] := ⟨l.dropLast, l.getLast hne, (List.dropLast_concat_getLast hne).symm⟩
    have hm : m.length = n := by simpa using hn
    have h1 := ih m (fun x hx => h x (List.mem_append_left _ hx)) hm
    have h2 := h b (by simp)
    rw [decV_snoc, List.length_append, List.length_singleton, Nat.pow_succ]
    omega
theorem decV_take (l : List UInt8) (i : Nat) (hi : i < l.length) : decV (l.take (i + 1)) = 10 * decV (l.take i) + ((l.getD i 0).toNat - 48) := by
  rw [List.take_succ_eq_append_getElem hi, decV_snoc]
  simp [List.getD, hi]
theorem DigL.take {l : List UInt8} (h : DigL l) (i : Nat) : DigL (l.take i) := fun b hb => h b (List.mem_of_mem_take hb)
theorem DigL.get {l : List UInt8} (h : DigL l) (i : Nat) (hi : i < l.length) : 48 ≤ (l[i]'hi).toNat ∧ (l[i]'hi).toNat ≤ 57 := h _ (List.getElem_mem hi)
theorem DigL.of_get {l : List UInt8} (h : ∀ (i : Nat) (hi : i < l.length), 48 ≤ (l[i]'hi).toNat ∧ (l[i]'hi).toNat ≤ 57) : DigL l := by
  intro b hb
  obtain ⟨i, hi, rfl⟩ := List.getElem_of_mem hb
  exact h i hi
theorem ten_limbs (k n : Nat) (h : n < 10 ^ k) : (limbs n).length ≤ k := by
  apply length_limbs_le
  exact Nat.lt_of_lt_of_le h (Nat.pow_le_pow_left (by decide) k)
theorem byte_list (s : ByteArray) (i : Nat) (hi : i < s.size) : s.data.toList[i]'(by simpa using hi) = s[i]'hi := by simp [ByteArray.getElem_eq_getElem_data]
end Go.Plumb

namespace Go.Plumb
/-- The rests of dividing by 10^19, again and again. -/
def chunksN (n : Nat) : List Nat := if h : n = 0 then [] else n % 10000000000000000000 :: chunksN (n / 10000000000000000000)
termination_by n
decreasing_by omega
theorem chunksN_zero : chunksN 0 = [] := by unfold chunksN; simp
theorem chunksN_pos {n : Nat} (h : n ≠ 0) : chunksN n = n % 10000000000000000000 :: chunksN (n / 10000000000000000000) := by rw [chunksN]; simp [h]
/-- Just k digits, the lowest first. -/
def padD : Nat → Nat → List UInt8
  | 0, _ => []
  | k + 1, n => digB (n % 10) :: padD k (n / 10)
theorem padD_length (k : Nat) : ∀ n, (padD k n).length = k := by
  induction k with
  | zero => intro n; rfl
  | succ k ih => intro n; simp [padD, ih]
theorem padD_succ (k : Nat) : ∀ n, padD (k + 1) n = padD k n ++ [digB (n / 10 ^ k % 10)] := by
  induction k with
  | zero => intro n; simp [padD]
  | succ k ih =>
    intro n
    rw [padD, ih (n / 10), padD, List.cons_append, Nat.div_div_eq_div_mul, Nat.pow_succ, Nat.mul_comm 10]
theorem padD_zero (k : Nat) : padD k 0 = List.replicate k 48 := by
  induction k with
  | zero => rfl
  | succ k ih => rw [padD, List.replicate_succ]; simp only [Nat.zero_mod, Nat.zero_div]; rw [ih]; rfl
theorem padD_small (k : Nat) : ∀ n, n < 10 ^ k → ∃ m, padD k n = digs n ++ List.replicate m 48 := by
  induction k with
  | zero => intro n h; have : n = 0 := by simp at h; omega
            subst this; exact ⟨0, by rw [digs_zero]; rfl⟩
  | succ k ih =>
    intro n h
    by_cases h0 : n = 0
    · subst h0
      exact ⟨k + 1, by rw [digs_zero, padD_zero]; rfl⟩
    · obtain ⟨m, hm⟩ := ih (n / 10) (by rw [Nat.pow_succ] at h; omega)
      exact ⟨m, by rw [padD, hm, digs_pos h0]; rfl⟩
theorem padD_digs (k : Nat) : ∀ n, n / 10 ^ k ≠ 0 → digs n = padD k (n % 10 ^ k) ++ digs (n / 10 ^ k) := by
  induction k with
  | zero => intro n h; simp [padD]
  | succ k ih =>
    intro n h
    have hd : n / 10 ^ (k + 1) = n / 10 / 10 ^ k := by rw [Nat.div_div_eq_div_mul, Nat.pow_succ, Nat.mul_comm]
    rw [hd] at h
    have h0 : n ≠ 0 := by intro e; subst e; simp at h
    have hpp : (10 : Nat) ^ (k + 1) = 10 ^ k * 10 := Nat.pow_succ ..
    have e1 : n % 10 ^ (k + 1) % 10 = n % 10 := Nat.mod_mod_of_dvd _ ⟨10 ^ k, by rw [hpp, Nat.mul_comm]⟩
    have e2 : n % 10 ^ (k + 1) / 10 = n / 10 % 10 ^ k := by
      rw [hpp, Nat.mul_comm, Nat.mod_mul_right_div_self]
    rw [digs_pos h0, ih _ h, padD, e1, e2, hd]
    rfl
/-- All chunks' digits are the number's, but for noughts behind. -/
theorem chunks_digs (n : Nat) : ∃ m, (chunksN n).flatMap (padD 19) = digs n ++ List.replicate m 48 := by
  induction n using Nat.strongRecOn with
  | ind n ih =>
    by_cases h0 : n = 0
    · subst h0
      exact ⟨0, by rw [chunksN_zero, digs_zero]; rfl⟩
    · rw [chunksN_pos h0, List.flatMap_cons]
      by_cases h1 : n / 10000000000000000000 = 0
      · rw [h1, chunksN_zero, List.flatMap_nil, List.append_nil]
        have e : (10 : Nat) ^ 19 = 10000000000000000000 := by decide
        rw [Nat.mod_eq_of_lt (by omega)]
        exact padD_small 19 n (by omega)
      · obtain ⟨m, hm⟩ := ih (n / 10000000000000000000) (by omega)
        refine ⟨m, ?_⟩
        have e : (10 : Nat) ^ 19 = 10000000000000000000 := by decide
        have := padD_digs 19 n (by rw [e]; exact h1)
        rw [e] at this
        rw [hm, this, List.append_assoc]
theorem digs_top (n : Nat) (h : n ≠ 0) : ∃ l b, digs n = l ++ [b] ∧ b ≠ 48 := by
  induction n using Nat.strongRecOn with
  | ind n ih =>
    rw [digs_pos h]
    by_cases h1 : n / 10 = 0
    · refine ⟨[], digB (n % 10), by rw [h1, digs_zero]; rfl, ?_⟩
      intro e
      have := congrArg UInt8.toNat e
      rw [digB_toNat (by omega)] at this
      have h48 : (48 : UInt8).toNat = 48 := rfl
      omega
    · obtain ⟨l, b, h2, h3⟩ := ih (n / 10) (by omega) h1
      exact ⟨digB (n % 10) :: l, b, by rw [h2]; rfl, h3⟩
theorem dropWhile_noughts (m : Nat) (l : List UInt8) : (List.replicate m 48 ++ l).dropWhile (· == 48) = l.dropWhile (· == 48) := by
  induction m with
  | zero => rfl
  | succ m ih => rw [List.replicate_succ, List.cons_append, List.dropWhile_cons]; simp [ih]
theorem chunks_text (n : Nat) : ((chunksN n).flatMap (padD 19)).reverse.dropWhile (· == 48) = (digs n).reverse := by
  obtain ⟨m, hm⟩ := chunks_digs n
  rw [hm, List.reverse_append, List.reverse_replicate, dropWhile_noughts]
  by_cases h : n = 0
  · subst h; rw [digs_zero]; rfl
  · obtain ⟨l, b, h1, h2⟩ := digs_top n h
    rw [h1, List.reverse_append, List.reverse_singleton, List.singleton_append, List.dropWhile_cons]
    simp [h2]
theorem digs_reverse_nil (n : Nat) : (digs n).reverse = [] ↔ n = 0 := by
  constructor
  · intro h
    apply Classical.byContradiction
    intro h0
    rw [digs_pos h0] at h
    simp at h
  · rintro rfl; rw [digs_zero]; rfl
theorem chunks_length (k : Nat) : ∀ n, n < 10 ^ k → (chunksN n).length ≤ k := by
  induction k with
  | zero => intro n h; have : n = 0 := by simp at h; omega
            subst this; rw [chunksN_zero]; simp
  | succ k ih =>
    intro n h
    by_cases h0 : n = 0
    · subst h0; rw [chunksN_zero]; simp
    · rw [chunksN_pos h0, List.length_cons]
      have := ih (n / 10000000000000000000) (by rw [Nat.pow_succ] at h; omega)
      omega
/-- One chunk's bytes, so far. -/
def chunkAt (bs : List UInt8) (n i : Nat) : List UInt8 := bs ++ padD i n
theorem chunkAt_zero (bs : List UInt8) (n : Nat) : chunkAt bs n 0 = bs := by simp [chunkAt, padD]
theorem chunkAt_succ (bs : List UInt8) (n i : Nat) : chunkAt bs n (i + 1) = chunkAt bs n i ++ [digB (n / 10 ^ i % 10)] := by
  unfold chunkAt; rw [padD_succ, List.append_assoc]
end Go.Plumb

namespace Go.Plumb
open Go Go.RowKit

/-- Block K, where it is cells, lies as it lay. -/
def KeptCells (K : Nat) (W W' : World) : Prop := W.heap.size ≤ W'.heap.size ∧ ∀ o, W.heap[K]? = some o → o.isCells = true → W'.heap[K]? = some o
theorem KeptCells.trans {K : Nat} {A B C : World} (h : KeptCells K A B) (k : KeptCells K B C) : KeptCells K A C := ⟨Nat.le_trans h.1 k.1, fun o ho hc => k.2 o (h.2 o ho hc) hc⟩
theorem KeptCells.putObj {K : Nat} (W : World) (l : Nat) (o o' : Obj) (h : W.heap[l]? = some o) (hc : o.isCells = false) : KeptCells K W (W.putObj l o') := by
  refine ⟨(grownBy_putObj' W l o').size, fun u hu hcu => ?_⟩
  by_cases hKl : K = l
  · subst hKl; rw [h] at hu; cases hu; rw [hc] at hcu; cases hcu
  · exact (World.putObj_heap_other hKl).trans hu

/-- Block K holds cells of type T. -/
def CellsAt (T : TypeId) (K : Nat) (W : World) : Prop := ∃ cs cur, W.heap[K]? = some (.cells cs T cur)
theorem CellsAt.lt {T : TypeId} {K : Nat} {W : World} (h : CellsAt T K W) : K < W.heap.size := by
  obtain ⟨cs, cur, h⟩ := h
  exact (Array.getElem?_eq_some_iff.1 h).1
theorem CellsAt.kept {T : TypeId} {K : Nat} {W W' : World} (h : CellsAt T K W) (hk : KeptCells K W W') : CellsAt T K W' := by
  obtain ⟨cs, cur, h⟩ := h
  exact ⟨cs, cur, hk.2 _ h rfl⟩
theorem CellsAt.not_row {T e : TypeId} {K : Nat} {W : World} (h : CellsAt T K W) (hte : T ≠ e) {base size k : Nat} {v : Value} {xs : List Value} (hr : W.ownsRow base e size v k xs) : some K ≠ v.ownBlock := by
  obtain ⟨cs, cur', h⟩ := h
  rcases hr.2 with ⟨rfl, _⟩ | ⟨g, cap, cur, rfl, _, hgb, _⟩
  · simp [Value.ownBlock]
  · intro e'
    obtain rfl : K = g := by simpa [Value.ownBlock] using e'
    have := h.symm.trans hgb
    simp at this
    exact hte this.2.1
theorem grownBy_setCellAt (W : World) (b i : Nat) (v : Value) : W.grownBy (W.setCell ⟨b, i, none⟩ v) (some b) :=
  ⟨rfl, rfl, rfl, (KeepsWalks.setCell W _ v).size, fun k _ hk => Below.heap_setCell _ _ _ k (fun e => hk (by rw [e]))⟩

def SeqStopsM {α : Type} (F : Fence) (n : Nat) (P : Program) (g : Nat) (lb : Array Value) (encs : α → Array Value) (T : TypeId) (D : α → Prop) (S : List α → Prop) (N : Nat) (w : World) : Prop :=
  ∀ (l : Nat) (J : List α → World → Prop) (W : World), Below w.heap.size w W →
    (∀ pre W1 W2, J pre W1 → Below W1.heap.size W1 W2 → J pre W2) →
    (∀ K pre W1 i v, W.heap.size ≤ K → CellsAt T K W1 → J pre W1 → J pre (W1.setCell ⟨K, i, none⟩ v)) →
    (∀ K pre x W1, D x → W.heap.size ≤ K → CellsAt T K W1 → J pre W1 → pre.length < N → YieldAt F (n - 1) P l (encs x) W1 fun e W' =>
      e = .returned (.bool true) ∧ J (pre ++ [x]) W' ∧ KeptCells K W1 W') →
    J [] W →
    CallsIn F n P g (#[.func (.yield l) #[] #[]] ++ lb) W fun e W' => (∃ v, e = .returned v) ∧ ∃ xs, S xs ∧ J xs W'

def ownPostM {α : Type} (B K : Nat) (I : List α → World → Prop) (xs : List α) (W : World) : Exit → Act → World → Prop
  | .normal, _, W' => KeepsFrom B W W' ∧ KeptCells K W W' ∧ I xs W'
  | .ret, _, _ => False
  | .exit _, _, _ => False
  | .goto _, _, _ => False
  | .panic _, _, _ => False
  | .outgrown, _, _ => False

variable {F : Fence} {n : Nat} {P : Program}

theorem wpIn_rangeFunc_ownM {α : Type} {g : Operand} {ps : Array Tmp} {assign body : Code} {Q : Exit → Act → World → Prop} {a : Act} {w : World}
    (hro : F.round = none) (h1 : 1 ≤ n) {gf : Nat} {lb : Array Value} (hg : a.eval g = .func (.func gf) #[] lb) (hFg : F.fn gf) (eg : ∀ args w, (callFunc gf args).run P w = .ok (.enter gf args) w)
    {encs : α → Array Value} {T : TypeId} {Dx : α → Prop} {S : List α → Prop} {N : Nat} {w0 : World} (hseq : SeqStopsM F (n - 1) P gf lb encs T Dx S N w0)
    (hb0 : Below w0.heap.size w0 w) (hps : ∀ x, (encs x).size = ps.size)
    (I : List α → World → Prop) (hI : OwnFrom w.heap.size I)
    (hIs : ∀ K pre W1 i v, w.heap.size ≤ K → CellsAt T K W1 → I pre W1 → I pre (W1.setCell ⟨K, i, none⟩ v))
    (h0 : I [] w) (a₁ : α → Act)
    (hassign : ∀ (l : Nat) (x : α) (W : World) (K : Act → World → Prop), K (a₁ x) W →
      assign.wpIn (F.inRound l) (n - 1 - 1) P (Exit.then K (fun _ _ _ => False)) { tmps := (ps.zip (encs x)).foldl (fun t (p, v) => t.setIfInBounds p v) a.tmps, defers := [] } W)
    (hbody : ∀ (l K : Nat) (pre : List α) (x : α) (W : World), Dx x → I pre W → CellsAt T K W → w.heap.size ≤ K → pre.length < N → body.wpIn (F.inRound l) (n - 1 - 1) P (ownPostM w.heap.size K I (pre ++ [x]) W) (a₁ x) W)
    (hdone : ∀ (D : Nat) (xs : List α) (W : World), w.heap.size ≤ D → S xs → I xs W → W.heap[D]? = some (.deferred (some [])) → Q .normal { a with defers := { target := .collected D, args := #[] } :: a.defers } W) :
    (Code.rangeFunc g ps assign body).wpIn F n P Q a w := by
  refine wpIn_rangeFunc ?_
  intro fn hfn
  rw [hro]
  obtain ⟨rec, hrec⟩ : ∃ rec : LoopState → Option Code → Loop, rec = fun st pe => { state := st, pending := pe, fn, tmps := a.tmps, params := ps, assign, body, defers := w.heap.size } := ⟨_, rfl⟩
  obtain ⟨W1, hW1⟩ : ∃ W1, (w.alloc (.deferred (some []))).alloc (.loop (rec .ready none)) = W1 := ⟨_, rfl⟩
  have hL1 : W1.heap[w.heap.size + 1]? = some (.loop (rec .ready none)) := by
    rw [← hW1]; have := World.alloc_heap_new (w.alloc (.deferred (some []))) (.loop (rec .ready none)); rwa [World.size_alloc] at this
  have hK1 : W1.heap[w.heap.size]? = some (.deferred (some [])) := by
    rw [← hW1]; exact (Below.heap_alloc _ _ _ (by simp)).trans (World.alloc_heap_new w _)
  have hbw : Below w.heap.size w W1 := by
    rw [← hW1]; exact ((Below.refl _ w).alloc (Nat.le_refl _) _).alloc (by simp) _
  have hb1 : Below w0.heap.size w0 W1 := hb0.trans (hbw.mono hb0.size)
  refine ⟨w.heap.size + 1, [{ target := .collected w.heap.size, args := #[] }], W1, { target := .fn (.func gf) lb, args := #[.func (.yield (w.heap.size + 1)) #[] #[]] }, W1, gf,
    #[.func (.yield (w.heap.size + 1)) #[] #[]] ++ lb, W1, ?_, ?_, ?_, ?_, fun _ => h1, ?_⟩
  · rw [← hW1, hrec]; exact run_enterLoop_outer _ _ _ _ _
  · simp only [resolve, hg]
    simp [go_sem]
  · intro f' hf'; simp [Target.leads] at hf'; subst hf'; exact hFg
  · simp [invoke, go_sem, eg]
  · have hsz1 : W1.heap.size = w.heap.size + 2 := by rw [← hW1]; simp
    have grow : ∀ {A B : World}, Below A.heap.size A B → A.grownBy B none := fun h => ⟨h.os, h.tape, h.output, h.size, fun k hk _ => h.block k hk⟩
    refine (hseq (w.heap.size + 1)
      (fun pre W => I pre W ∧ W.heap[w.heap.size + 1]? = some (.loop (rec .ready none)) ∧ W.heap[w.heap.size]? = some (.deferred (some [])))
      W1 hb1
      (fun s A B hs hg' => ⟨hI s A B none hs.1 (grow hg') (fun r e => by cases e), (hg'.block _ (Array.getElem?_eq_some_iff.1 hs.2.1).1).trans hs.2.1, (hg'.block _ (Array.getElem?_eq_some_iff.1 hs.2.2).1).trans hs.2.2⟩)
      (fun K s A i v hK hc hs => ⟨hIs K s A i v (by omega) hc hs.1, (KeepsOthers.setCell _ _ _).same _ _ hs.2.1 rfl, (KeepsOthers.setCell _ _ _).same _ _ hs.2.2 rfl⟩)
      ?_ ⟨hI _ _ _ none h0 (grow hbw) (fun r e => by cases e), hL1, hK1⟩).mono ?_
    · -- one round
      rintro K pre x W hdx hwK hKlt ⟨hi, hl, hk⟩ hlen
      have hlt : w.heap.size + 1 < W.heap.size := (Array.getElem?_eq_some_iff.1 hl).1
      have hy := run_yield (P := P) (args := encs x) hl (by rw [hrec]; exact hps x)
      rw [hrec] at hy
      refine ⟨fn, _, assign, body, hy, roundIn_of_wpIn hfn (hassign _ x W _ ⟨_, run_beginRound hl (by rw [hrec]), ?_⟩)⟩
      have hl2 : (W.putObj (w.heap.size + 1) (.loop { rec .ready none with state := .busy })).heap[w.heap.size + 1]? = some (.loop { rec .ready none with state := .busy }) := World.putObj_heap_same hlt
      have hk2 : (W.putObj (w.heap.size + 1) (.loop { rec .ready none with state := .busy })).heap[w.heap.size]? = some (.deferred (some [])) := (World.putObj_heap_other (by omega)).trans hk
      have hw2 : KeptCells K W (W.putObj (w.heap.size + 1) (.loop { rec .ready none with state := .busy })) := KeptCells.putObj _ _ _ _ hl rfl
      refine wpIn_mono (hbody _ K pre x _ hdx (hI.putObj _ hi (by omega) hl rfl) (hKlt.kept hw2) (by omega) hlen) ?_
      have fin : ∀ (jump : Option Code) (W3 : World), KeepsFrom w.heap.size (W.putObj (w.heap.size + 1) (.loop { rec .ready none with state := .busy })) W3 →
          (Instr.endRound (w.heap.size + 1) jump).run P W3 = .ok (.bool jump.isNone) (W3.putObj (w.heap.size + 1) (.loop (rec (if jump.isNone then .ready else .done) jump))) ∧
          W3.heap[w.heap.size + 1]? = some (.loop { rec .ready none with state := .busy }) ∧
          (W3.putObj (w.heap.size + 1) (.loop (rec (if jump.isNone then .ready else .done) jump))).heap[w.heap.size + 1]? = some (.loop (rec (if jump.isNone then .ready else .done) jump)) ∧
          (W3.putObj (w.heap.size + 1) (.loop (rec (if jump.isNone then .ready else .done) jump))).heap[w.heap.size]? = some (.deferred (some [])) := fun jump W3 hk3 => by
        have hl3 := hk3.same _ _ (by omega) hl2 rfl
        have := run_endRound (P := P) jump hl3
        rw [hrec] at this ⊢
        exact ⟨this, by rw [hrec] at hl3; exact hl3, World.putObj_heap_same (Array.getElem?_eq_some_iff.1 hl3).1, (World.putObj_heap_other (by omega)).trans (hk3.same _ _ (by omega) hk2 rfl)⟩
      rintro e a3 W3 hp
      cases e with
      | normal =>
        obtain ⟨hk3, hkp3, hi3⟩ := hp
        obtain ⟨hr, hl3, hl4, hk4⟩ := fin none W3 hk3
        exact ⟨_, _, hr, rfl, ⟨hI.putObj _ hi3 (by omega) hl3 rfl, hl4, hk4⟩, (hw2.trans hkp3).trans (KeptCells.putObj _ _ _ _ hl3 rfl)⟩
      | ret => exact hp.elim
      | exit id => exact hp.elim
      | goto t => exact hp.elim
      | panic ch => exact hp.elim
      | outgrown => exact hp.elim
    · -- behind the iterator
      rintro e W2 ⟨⟨v, rfl⟩, xs, hS, hi, hl, hk⟩
      exact ⟨none, _, by have := run_endLoop (P := P) hl (by rw [hrec]; simp); rw [hrec] at this; exact this, hdone _ xs _ (Nat.le_refl _) hS (hI.putObj _ hi (by omega) hl rfl) ((World.putObj_heap_other (by omega)).trans hk)⟩
end Go.Plumb

namespace Go.Proofs.YtjlaadadbpffdaaGreatDoor
open Go.RowKit Go.Plumb

set_option maxHeartbeats 2000000 in
set_option maxRecDepth 1000000 in
theorem trimLeftByte_any (s : ByteArray) (c : UInt8) (w : World) :
    Calls Tryz.prog 179 #[.string s, .int .u8 c.toNat] w fun e w' => e = .returned (.string ⟨(Lib.trimLeftB s.data.toList c).toArray⟩) ∧ w' = w := by
  go_enter Tryz.func179, Tryz.ntmps179
  go_wp2
  go_loop [0] (fun v => ∃ k : Nat, k ≤ s.size ∧ v = .string ⟨(s.data.toList.drop k).toArray⟩ ∧ ∀ (j : Nat) b, j < k → s.data.toList[j]? = some b → b = c) (fun v => Lib.strSize v)
  case atStart => exact ⟨0, Nat.zero_le _, by simp, fun j b hj => absurd hj (Nat.not_lt_zero _)⟩
  case round =>
    obtain ⟨k, hk, rfl, hc⟩ := hrel
    have hts : (⟨(s.data.toList.drop k).toArray⟩ : ByteArray).size = s.size - k := by rw [Lib.size_mk, List.length_drop, ← Lib.size_eq]
    have hb0 : ∀ h, s.data.toList[k]? = some ((⟨(s.data.toList.drop k).toArray⟩ : ByteArray)[0]'h) := by
      intro h
      rw [← Lib.getElem_mk (s.data.toList.drop k) 0 h, List.getElem?_drop]
      rfl
    have hx1 : (⟨(s.data.toList.drop k).toArray⟩ : ByteArray).extract 1 (s.size - k) = ⟨(s.data.toList.drop (k + 1)).toArray⟩ := by
      rw [Lib.extract_mk, List.drop_drop, List.take_of_length_le (by simp; omega)]
    have hK : Lib.Kept (∀ (j : Nat) b, j < k → s.data.toList[j]? = some b → b = c) := hc
    clear hc
    generalize ht : (⟨(s.data.toList.drop k).toArray⟩ : ByteArray) = t at hts hb0 hx1 ⊢
    have hK3 : Lib.Kept ((⟨(s.data.toList.drop k).toArray⟩ : ByteArray) = t) := ht
    clear ht
    have hkl : Lib.Kept (k ≤ s.data.toList.length) := by rw [← Lib.size_eq]; exact hk
    by_cases h0 : 0 < t.size
    · have hbk := hb0 h0
      clear hb0
      by_cases heq : t[0]'h0 = c
      · have heq' : ((t[0]'h0).toNat : Int) = (c.toNat : Int) := by rw [heq]
        have hK2 : Lib.Kept (s.data.toList[k]? = some (t[0]'h0)) := hbk
        clear hbk
        go_wp2
        refine ⟨⟨k + 1, by omega, rfl, fun j b hj hb => ?_⟩, ?_⟩
        · by_cases e : j = k
          · subst e
            have h2 : s.data.toList[j]? = some (t[0]'h0) := hK2
            have h3 : s.data.toList[j]? = some b := by simpa using hb
            rw [h2] at h3
            rw [← Option.some.inj h3, heq]
          · exact hK j b (by omega) (by simpa using hb)
        · rw [Lib.strSize_string, Lib.strSize_string, Lib.size_mk, List.length_drop, ← Lib.size_eq]
          omega
      · have hne' : ¬ ((t[0]'h0).toNat : Int) = (c.toNat : Int) := by
          intro e
          exact heq (UInt8.toNat_inj.1 (by exact_mod_cast e))
        have hbeq : (((t[0]'h0).toNat : Int) == (c.toNat : Int)) = false := by simpa using hne'
        have hK2 : Lib.Kept (s.data.toList[k]? = some (t[0]'h0)) := hbk
        clear hbk
        go_wp2
        go_ret
        refine ⟨?_, rfl⟩
        have ht' : (⟨(s.data.toList.drop k).toArray⟩ : ByteArray) = t := hK3
        show Ending.returned (Value.string t) = _
        rw [Lib.trimLeftB_drop s.data.toList c k hkl hK (fun b hb => by
          have h2 : s.data.toList[k]? = some (t[0]'h0) := hK2
          rw [h2] at hb
          rw [← Option.some.inj hb]
          exact heq), ht']
    · clear hb0
      go_wp2
      go_ret
      refine ⟨?_, rfl⟩
      have ht' : (⟨(s.data.toList.drop k).toArray⟩ : ByteArray) = t := hK3
      show Ending.returned (Value.string t) = _
      rw [Lib.trimLeftB_drop s.data.toList c k hkl hK (fun b hb => by
        have : s.data.toList.length ≤ k := by rw [← Lib.size_eq]; omega
        simp [List.getElem?_eq_none this] at hb), ht']

set_option maxHeartbeats 2000000 in
set_option maxRecDepth 1000000 in
theorem TrimLeft_one (s : ByteArray) (c : UInt8) (hc : c.toNat < 128) (w : World) :
    Calls Tryz.prog 176 #[.string s, .string ⟨#[c]⟩] w fun e w' => e = .returned (.string ⟨(Lib.trimLeftB s.data.toList c).toArray⟩) ∧ w' = w := by
  have hc' : ¬ (128 : Int) ≤ (c.toNat : Int) := by omega
  go_enter Tryz.func176, Tryz.ntmps176
  go_wp2_with (go_at_call 179; refine (trimLeftByte_any s c _).mono ?_; rintro e w' ⟨rfl, rfl⟩)
  · have hl : s.data.toList = [] := by rw [← Lib.toList_data]; assumption
    go_ret
    refine ⟨?_, rfl⟩
    show Ending.returned (Value.string s) = _
    have hs0 : s = ⟨#[]⟩ := by rw [← Lib.mk_data s, hl]
    rw [hl]
    simp [Lib.trimLeftB, hs0]
  · exfalso
    have h1 : ¬ s.toList = [] := by assumption
    have h2 : s.toList.isEmpty = true := by assumption
    exact h1 (by simpa using h2)
  · go_ret
    exact ⟨rfl, rfl⟩
  all_goals (
    exfalso
    have h1 : (128 : Int) ≤ (((⟨#[c]⟩ : ByteArray)[0]'Nat.zero_lt_one).toNat : Int) := by assumption
    have h2 : ((⟨#[c]⟩ : ByteArray)[0]'Nat.zero_lt_one) = c := rfl
    rw [h2] at h1
    omega)
end Go.Proofs.YtjlaadadbpffdaaGreatDoor

namespace Go.Proofs.YtjlaadadbpffdaaGreatDoor
open Go.RowKit Go.Plumb

theorem ret_two' {v : Value} {a b : Int} (h : a = b) : Ending.returned (.tuple #[v, .int .i64 a]) = .returned (.tuple #[v, .int .i64 b]) := by rw [h]
theorem cell_keep {W w' : World} (hb : Below W.heap.size W w') : ∀ (g : Nat) (v : Value), W.cell? ⟨g, 0, none⟩ = some v → w'.cell? ⟨g, 0, none⟩ = some v := fun g v h => (hb.cell (p := ⟨g, 0, none⟩) (cell_lt h)).trans h
theorem cell_more {W : World} {g : Nat} {v : Value} (o : Obj) (h : W.cell? ⟨g, 0, none⟩ = some v) : (W.alloc o).cell? ⟨g, 0, none⟩ = some v := cell_keep ((Below.refl _ W).alloc (Nat.le_refl _) o) g v h
theorem cell_drew {W : World} {p : Addr} {v : Value} (h : W.cell? p = some v) : W.drew.cell? p = some v := h
theorem cell_newg {W : World} {g : Nat} {v : Value} {t : TypeId} (h : g = W.heap.size) : (W.alloc (.cells #[v] t)).cell? ⟨g, 0, none⟩ = some v := by subst h; exact cell_new _ _ _
theorem harr_drew {W : World} {a : Option Addr} {c : Nat} {l : List Nat} (h : Hid (Arr W a c l)) : Hid (Arr W.drew a c l) := h
theorem harr_more {W : World} {a : Option Addr} {c : Nat} {l : List Nat} (o : Obj) (h : Hid (Arr W a c l)) : Hid (Arr (W.alloc o) a c l) := Lib.hid (h.out.below ((Below.refl _ W).alloc (Nat.le_refl _) o))
theorem arr_one {W : World} {g x : Nat} (h : W.cell? ⟨g, 0, none⟩ = some (.int .u64 (x : Int))) (hx : x < 18446744073709551616) : Arr W (some ⟨g, 0, none⟩) 1 [x] := by
  refine ⟨by simp, by unfold maxLen; omega, Limbs.cons hx Limbs.nil, fun j hj => ?_⟩
  have : j = 0 := by simpa using hj
  subst this
  exact ⟨g, 0, rfl, h⟩
theorem read_small (l : List UInt8) (k : Nat) (h : DigL l) : decV (l.take k) < 10 ^ l.length := by
  refine Nat.lt_of_lt_of_le (decV_lt _ (h.take k)) (Nat.pow_le_pow_right (by decide) ?_)
  rw [List.length_take]; omega
theorem read_at (s : ByteArray) (k : Nat) (hlt : k < s.size) : s.data.toList.getD k 0 = s[k]'hlt := by
  rw [← byte_list s k hlt, List.getD, List.getElem?_eq_getElem (by rw [← Lib.size_eq]; exact hlt)]
  rfl
/-- What the round's two calls do, at any world on the way. -/
theorem readr_step (A d : Nat) (xa : Option Addr) (xn xc : Nat) (wr : World) (B : Nat) (hO : OwnL wr B (.slice xa xn xc) (limbs A)) (M : Nat) (hM : M ≤ 1200) (hA : A < 10 ^ M) (hd : d < 10) : ∃ n2 n3 : Nat, n2 ≤ 100000 ∧ n3 ≤ 100000 ∧ Hid (
    (∀ (W : World) (g : Nat), Below wr.heap.size wr W → W.cell? ⟨g, 0, none⟩ = some (.int .u64 10) → Calls Tryz.prog 91 #[.slice xa xn xc, .slice (some ⟨g, 0, none⟩) 1 1] W fun e w' => ∃ qa qc, e = .returned (.slice qa n2 qc) ∧ Hid (Arr w' qa qc (limbs (10 * A))) ∧ Below W.heap.size W w')
    ∧ (∀ (W : World) (g : Nat) (qa : Option Addr) (qc : Nat), B ≤ W.heap.size → Hid (Arr W qa qc (limbs (10 * A))) → W.cell? ⟨g, 0, none⟩ = some (.int .u64 (d : Int)) → Calls Tryz.prog 88 #[.slice qa n2 qc, .slice (some ⟨g, 0, none⟩) 1 1] W fun e w' => ∃ va vc, e = .returned (.slice va n3 vc) ∧ Hid (OwnL w' B (.slice va n3 vc) (limbs (10 * A + d))) ∧ Below W.heap.size W w')) := by
  have l1 : (limbs A).length ≤ M := ten_limbs _ _ hA
  have h2 : 10 * A + d < 10 ^ (M + 1) := by rw [Nat.pow_succ]; generalize 10 ^ M = p at *; omega
  have l2 : (limbs (10 * A)).length ≤ M + 1 := ten_limbs _ _ (by omega)
  have l3 : (limbs (10 * A + d)).length ≤ M + 1 := ten_limbs _ _ h2
  have hlen := hO.len
  subst hlen
  have hAr := OwnL.arr' hO (limbs_limbs A)
  refine ⟨(limbs (10 * A)).length, (limbs (10 * A + d)).length, by omega, by omega, Lib.hid ⟨fun W g hb hc => ?_, fun W g qa qc hBW hq hc => ?_⟩⟩
  · refine (rmul_any xa (some ⟨g, 0, none⟩) xc 1 (limbs A) [10] W (hAr.below hb) (arr_one (x := 10) hc (by decide)) (by omega) (by simp)).mono ?_
    rintro e w' ⟨v, rfl, ho, hb'⟩
    have hv : valL (limbs A) * valL [10] = 10 * A := by rw [valL_limbs]; simp [valL]; omega
    rw [hv] at ho
    obtain ⟨a, c, rfl⟩ := OwnL.shape ho
    exact ⟨a, c, rfl, Lib.hid (OwnL.arr' ho (limbs_limbs _)), hb'⟩
  · refine (radd_any qa (some ⟨g, 0, none⟩) qc 1 (limbs (10 * A)) [d] W hq.out (arr_one hc (by omega)) (by omega) (by simp)).mono ?_
    rintro e w' ⟨v, rfl, ho, hb'⟩
    have hv : valL (limbs (10 * A)) + valL [d] = 10 * A + d := by rw [valL_limbs]; simp [valL]
    rw [hv] at ho
    obtain ⟨a, c, rfl⟩ := OwnL.shape ho
    exact ⟨a, c, rfl, Lib.hid (OwnL.weaken ho hBW), hb'⟩

end Go.Proofs.YtjlaadadbpffdaaGreatDoor

namespace Go.Proofs.YtjlaadadbpffdaaGreatDoor
open Go.RowKit Go.Plumb

theorem rev2_facts (N i j : Nat) (hN : (N : Int) ≤ 1000000) (hj : N - 1 - i = j) (hi : i < N / 2) :
    j < N ∧ i < N ∧ (i : Int) < (j : Int) ∧ wrap64 ((i : Int) + 1) = ((i + 1 : Nat) : Int) ∧ wrap64 ((j : Int) - 1) = (N : Int) - 1 - ((i + 1 : Nat) : Int) ∧ i + 1 ≤ N / 2 ∧ (N : Int) - 1 - (i : Int) = (j : Int) :=
  ⟨by omega, by omega, by omega, (IntWalk.wrap64_in _ ⟨by omega, by omega⟩).trans (by omega), (IntWalk.wrap64_in _ ⟨by omega, by omega⟩).trans (by omega), by omega, by omega⟩
theorem grow_swap {w wr : World} {g i j : Nat} {a b : Value} (h : w.grownBy wr (some g)) : w.grownBy ((wr.drew.setCell ⟨g, i, none⟩ a).setCell ⟨g, j, none⟩ b) (some g) := by
  refine ⟨h.os, h.tape, h.output, ?_, fun k hk hne => ?_⟩
  · have s1 := (KeepsWalks.setCell wr.drew ⟨g, i, none⟩ a).size
    have s2 := (KeepsWalks.setCell (wr.drew.setCell ⟨g, i, none⟩ a) ⟨g, j, none⟩ b).size
    have s0 : wr.drew.heap.size = wr.heap.size := rfl
    have := h.size
    omega
  · have hne' : k ≠ g := fun e => hne (by rw [e])
    rw [Below.heap_setCell _ _ _ k hne', Below.heap_setCell _ _ _ k hne']
    exact h.block k hk hne
set_option maxRecDepth 20000 in
set_option maxHeartbeats 1000000 in
theorem reverse_pos (g N cap B : Nat) (bs : List UInt8) (w : World) (hO : OwnB w B (.slice (some ⟨g, 0, none⟩) N cap) bs) (hgB : B ≤ g) (hN : bs.length = N) (hNb : (N : Int) ≤ 1000000) (h0 : 0 < N) (hBw : B ≤ w.heap.size) :
    Calls Tryz.prog 175 #[.slice (some ⟨g, 0, none⟩) N cap] w fun e w' => e = .returned (.tuple #[]) ∧ OwnB w' B (.slice (some ⟨g, 0, none⟩) N cap) bs.reverse ∧ w.grownBy w' (some g) := by
  have HN := Lib.hid hN
  have HO := Lib.hid hO
  have HBw := Lib.hid hBw
  have fN : IntKind.i64.wrap ((N : Int) - 1) = (N : Int) - 1 := IntWalk.i64_in _ ⟨by omega, by omega⟩
  clear hN hO hBw
  go_enter Tryz.func175, Tryz.ntmps175
  go_wp2_with fail
  go_loopg [2, 3] N (fun k s2 s3 wr => ∃ (i : Nat) (cs : List UInt8), s2 = .int .i64 (i : Int) ∧ s3 = .int .i64 ((N : Int) - 1 - (i : Int)) ∧ i ≤ N / 2 ∧ k + i = N ∧ Hid (turnedAt bs cs i) ∧ Hid (OwnB wr B (.slice (some ⟨g, 0, none⟩) N cap) cs) ∧ Hid (w.grownBy wr (some g)))
  case atStart => exact ⟨0, bs, rfl, by simp, Nat.zero_le _, rfl, Lib.hid (turned_start bs), HO, Lib.hid ⟨rfl, rfl, rfl, Nat.le_refl _, fun _ _ _ => rfl⟩⟩
  case round =>
    obtain ⟨i, cs, rfl, rfl, hi, hk, hR, hownc, hBc⟩ := hrel
    by_cases hlt : i < N / 2
    · obtain ⟨j, hj⟩ : ∃ j, N - 1 - i = j := ⟨_, rfl⟩
      obtain ⟨gj, gi, gij, f1, f2, f3, fj⟩ := rev2_facts N i j hNb hj hlt
      rw [fj]
      have hcl : cs.length = N := by rw [hR.out.1, HN.out]
      have hci : cs[i]? = some (cs.getD i 0) := by rw [List.getElem?_eq_getElem (by omega)]; simp [List.getD, show i < cs.length by omega]
      have hcj : cs[j]? = some (cs.getD j 0) := by rw [List.getElem?_eq_getElem (by omega)]; simp [List.getD, show j < cs.length by omega]
      obtain ⟨x, hx⟩ : ∃ x, cs.getD i 0 = x := ⟨_, rfl⟩
      obtain ⟨y, hy⟩ : ∃ y, cs.getD j 0 = y := ⟨_, rfl⟩
      rw [hx] at hci
      rw [hy] at hcj
      obtain ⟨X, hX⟩ : ∃ X : Int, ((x.toNat : Nat) : Int) = X := ⟨_, rfl⟩
      obtain ⟨Y, hY⟩ : ∃ Y : Int, ((y.toNat : Nat) : Int) = Y := ⟨_, rfl⟩
      have vX : Value.int .u8 X = byteV x := by rw [← hX]; rfl
      have vY : Value.int .u8 Y = byteV y := by rw [← hY]; rfl
      have hc1 : wr.cell? ⟨g, i, none⟩ = some (.int .u8 X) := by rw [vX]; exact OwnB.cell hownc.out i x hci
      have hc2 : wr.cell? ⟨g, j, none⟩ = some (.int .u8 Y) := by rw [vY]; exact OwnB.cell hownc.out j y hcj
      have hf1 := OwnB.thaw hownc.out i
      have hf2 := OwnB.thaw hownc.out j
      have hst := turned_step hR.out (by rw [HN.out]; exact hlt)
      rw [HN.out, hj, hx, hy] at hst
      have HST := Lib.hid hst
      have HO2 := Lib.hid (OwnB.store (OwnB.store (show OwnB wr.drew _ _ _ from World.ownsRow.drew hownc.out) i y _ vY) j x _ vX)
      have HB2 := Lib.hid (grow_swap (i := i) (j := j) (a := .int .u8 Y) (b := .int .u8 X) hBc.out)
      have HF := Lib.hid (And.intro f1 (And.intro f2 (And.intro f3 hk)))
      clear hNb hlt hj hcl hci hcj hx hy hst hX hY vX vY f1 f2 f3 hi hk fN
      go_wp2_with fail
      go_region
      go_wp2_with fail
      go_roundg (N - (i + 1))
      case rel => exact ⟨i + 1, _, by rw [HF.out.1], by rw [HF.out.2.1], HF.out.2.2.1, by have := HF.out.2.2.1; omega, HST, HO2, HB2⟩
      case measure => have := HF.out.2.2; omega
    · have hall := turned_end hR.out (by rw [HN.out]; omega)
      subst hall
      have fi : ¬ ((i : Int) < (N : Int) - 1 - (i : Int)) := by omega
      have HBc := Lib.hid hBc.out
      clear hk hi hlt fN
      go_wp2_with fail
      go_end0
      exact ⟨rfl, hownc.out, hBc.out⟩
set_option maxHeartbeats 1000000 in
theorem reverse_none (a : Option Addr) (cap : Nat) (w : World) :
    Calls Tryz.prog 175 #[.slice a 0 cap] w fun e w' => e = .returned (.tuple #[]) ∧ w = w' := by
  go_enter Tryz.func175, Tryz.ntmps175
  go_wp2_with fail
  go_loopg [2, 3] 0 (fun _ s2 s3 wr => s2 = .int .i64 0 ∧ s3 = .int .i64 (-1) ∧ w = wr)
  case atStart => exact ⟨rfl, rfl, rfl⟩
  case round =>
    obtain ⟨rfl, rfl, rfl⟩ := hrel
    go_wp2_with fail
    go_end0
    exact ⟨rfl, rfl⟩
theorem reverse_own (B : Nat) (v : Value) (bs : List UInt8) (w : World) (hO : OwnB w B v bs) (hN : bs.length ≤ 1000000) (hBw : B ≤ w.heap.size) :
    Calls Tryz.prog 175 #[v] w fun e w' => e = .returned (.tuple #[]) ∧ OwnB w' B v bs.reverse ∧ w.grownBy w' v.ownBlock := by
  by_cases h0 : 0 < bs.length
  · obtain ⟨g, cap, rfl, hg, _, _, _⟩ := OwnB.pos hO h0
    exact reverse_pos g bs.length cap B bs w hO hg rfl (by omega) h0 hBw
  · obtain rfl : bs = [] := List.eq_nil_of_length_eq_zero (by omega)
    obtain ⟨a, c, rfl⟩ := OwnB.shape hO
    refine (reverse_none a c w).mono ?_
    rintro e w' ⟨rfl, rfl⟩
    exact ⟨rfl, hO, ⟨rfl, rfl, rfl, Nat.le_refl _, fun _ _ _ => rfl⟩⟩
end Go.Proofs.YtjlaadadbpffdaaGreatDoor
