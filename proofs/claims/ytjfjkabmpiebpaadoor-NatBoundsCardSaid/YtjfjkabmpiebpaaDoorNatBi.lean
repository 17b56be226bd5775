/-
  nat.Text.
-/
import Derived.Test.YtjfjkabmpiebpaaDoorNatBh
set_option linter.unusedSimpArgs false
set_option linter.unusedVariables false
namespace Go.Proofs.YtjfjkabmpiebpaaDoor
open Go.RowKit Go.Plumb

attribute [local go_sem] Oper.semAt_some

def bytesOf (pre : List Nat) : List UInt8 := pre.flatMap (padD 19)
theorem bytesOf_snoc (pre : List Nat) (x : Nat) : bytesOf (pre ++ [x]) = chunkAt (bytesOf pre) x 19 := by
  unfold bytesOf chunkAt; rw [List.flatMap_append]; simp
theorem bytesOf_length (pre : List Nat) : (bytesOf pre).length = 19 * pre.length := by
  induction pre with
  | nil => rfl
  | cons x l ih => unfold bytesOf at *; rw [List.flatMap_cons, List.length_append, padD_length, ih, List.length_cons]; omega
theorem limit_chunks (V : Nat) (M : Nat) (h : (limbs V).length ≤ M) : (chunksN V).length ≤ 20 * M :=
  chunks_length _ _ (Nat.lt_of_lt_of_le (lt_pow_length V) (Nat.le_trans (ten_pow _) (Nat.pow_le_pow_right (by decide) (Nat.mul_le_mul_left _ h))))
def TextI (k B : Nat) (w : World) (pre : List Nat) (W : World) : Prop := (∃ v, Boxed W B 71 v ∧ W.ownsRow k 5 1 v (bytesOf pre).length ((bytesOf pre).map byteV) ∧ True) ∧ Below k w W
theorem TextI_own (k B : Nat) (w : World) (hk : k ≤ w.heap.size) (B0 : Nat) (hB0 : k ≤ B0) : OwnFrom B0 (TextI k B w) :=
  OwnFrom.and (Own.from (holdsRow_own k B 71 5 1 (fun pre => (bytesOf pre).length) (fun pre => (bytesOf pre).map byteV) (fun _ _ => True)) _) (ownFrom_below hk hB0)
theorem TextI_store {k B : Nat} {w : World} {K i : Nat} {pre : List Nat} {W : World} {v : Value} (hkK : k ≤ K) (hBK : B ≠ K) (hc : CellsAt 36 K W) (h : TextI k B w pre W) : TextI k B w pre (W.setCell ⟨K, i, none⟩ v) := by
  obtain ⟨⟨u, hb, hr, _⟩, hw⟩ := h
  exact ⟨⟨u, hb.kept (grownBy_setCellAt W K i v) (by simp; exact hBK), hr.kept (grownBy_setCellAt W K i v) (.inr (hc.not_row (by decide) hr).symm), trivial⟩, hw.setCell (p := ⟨K, i, none⟩) hkK v⟩
theorem kept_append {W w1 : World} {K B : Nat} {tmp : Obj} {v v' : Value} (hne : some K ≠ v.ownBlock) (hBK : B ≠ K) (hK : K < W.heap.size) (hgrow : (W.alloc tmp).grownBy w1 v.ownBlock) : KeptCells K W (w1.setCell ⟨B, 0, none⟩ v') := by
  have h1 : (W.alloc tmp).heap[K]? = W.heap[K]? := Below.heap_alloc W _ _ hK
  have h2 := hgrow.block K (by simp; omega) hne
  have h3 : (w1.setCell ⟨B, 0, none⟩ v').heap[K]? = w1.heap[K]? := Below.heap_setCell _ _ _ K (fun e => hBK e.symm)
  refine ⟨?_, fun o ho _ => by rw [h3, h2, h1]; exact ho⟩
  have a := hgrow.size
  have b := (KeepsWalks.setCell w1 ⟨B, 0, none⟩ v').size
  simp at a
  omega
set_option maxRecDepth 20000 in
set_option maxHeartbeats 1000000 in
theorem Text_any (a : Option Addr) (c : Nat) (l : List Nat) (w : World) (hA : Arr w a c l) (hl : (limbs (valL l)).length ≤ 1000) :
    Calls Tryd.prog 31 #[.slice a l.length c] w fun e w' => e = .returned (.tuple #[.string ⟨(textN (valL l)).toArray⟩, .int .i64 0]) ∧ Below w.heap.size w w' := by
  obtain ⟨i0, hi0, hz0, hz1, hz2⟩ := info_parts info_u8
  have hO := open1_in a c l w hA (by omega)
  have HA := Lib.hid hA.norm
  obtain ⟨V, hV⟩ : ∃ V, valL l = V := ⟨_, rfl⟩
  have HV : Hid ((chunksN V).length ≤ 20000 ∧ (limbs V).length ≤ 10000) := Lib.hid (by rw [← hV]; exact ⟨limit_chunks _ 1000 hl, by omega⟩)
  rw [hV] at hO HA hl ⊢
  obtain ⟨m, hm⟩ : ∃ m, (limbs V).length = m := ⟨_, rfl⟩
  rw [hm] at hO hl
  have Hm := Lib.hid hm
  clear hA hV hm
  refine (callsIn_wide (n := 10)).1 ?_
  refine callsIn_of_wp_marks Tryd.func31 rfl trivial ?_ rfl
  refine wpIn_wide.2 ?_
  simp only [Tryd.ntmps31, List.size_toArray, List.length_cons, List.length_nil, Nat.reduceAdd, Nat.reduceSub, Array.replicate_succ, Array.replicate_zero, List.push_toArray, List.append_toArray, List.nil_append, List.cons_append]
  go_wp2_with fail
  refine hO.mono ?_
  rintro e w' ⟨rfl, rfl⟩
  clear hO
  go_wp2_with fail
  refine (chunks_make _ _ _ _).mono ?_
  rintro e w' ⟨rfl, rfl⟩
  have hB0 : Below w.heap.size w ((((w.alloc (.cells #[.slice a m c] 22)).alloc (.cells #[.pointer (some ⟨w.heap.size, 0, none⟩)] 62)).alloc (.cells #[.slice none 0 0] 71)).alloc (.cells #[.slice a m c] 22)) := by (repeat' (first | exact Below.refl _ _ | assumption | (refine below_alloc ?_ _) | (refine Below.setCell ?_ ?_ _) | (refine Below.drew ?_) | (refine below_drewN ?_ _))) <;> (first | (simp; done) | (simp; omega) | omega)
  have hBx0 : Boxed ((((w.alloc (.cells #[.slice a m c] 22)).alloc (.cells #[.pointer (some ⟨w.heap.size, 0, none⟩)] 62)).alloc (.cells #[.slice none 0 0] 71)).alloc (.cells #[.slice a m c] 22)) (w.heap.size + 1 + 1) 71 (.slice none 0 0) := by
    have := (Boxed.new ((w.alloc (.cells #[.slice a m c] 22)).alloc (.cells #[.pointer (some ⟨w.heap.size, 0, none⟩)] 62)) 71 (.slice none 0 0)).alloc (.cells #[.slice a m c] 22)
    simpa using this
  have hcN : ((((w.alloc (.cells #[.slice a m c] 22)).alloc (.cells #[.pointer (some ⟨w.heap.size, 0, none⟩)] 62)).alloc (.cells #[.slice none 0 0] 71)).alloc (.cells #[.slice a m c] 22)).cell? ⟨w.heap.size + 1 + 1 + 1, 0, none⟩ = some (.slice a (limbs V).length c) := by
    rw [Hm.out]
    exact cell_newg (by simp)
  have hsz : ((((w.alloc (.cells #[.slice a m c] 22)).alloc (.cells #[.pointer (some ⟨w.heap.size, 0, none⟩)] 62)).alloc (.cells #[.slice none 0 0] 71)).alloc (.cells #[.slice a m c] 22)).heap.size = w.heap.size + 4 := by simp
  go_wp2_with fail
  obtain ⟨W0, hW0⟩ : ∃ W0, ((((w.alloc (.cells #[.slice a m c] 22)).alloc (.cells #[.pointer (some ⟨w.heap.size, 0, none⟩)] 62)).alloc (.cells #[.slice none 0 0] 71)).alloc (.cells #[.slice a m c] 22)) = W0 := ⟨_, rfl⟩
  rw [hW0] at hB0 hBx0 hcN hsz ⊢
  clear hW0
  have hN := HV.out.1
  refine (wpIn_wide (n := 10)).1 ?_
  refine wpIn_rangeFunc_ownM rfl (by decide) (gf := 75) (lb := #[.pointer (some ⟨w.heap.size + 1 + 1 + 1, 0, none⟩)]) rfl trivial (enters_of Tryd.func75 (by kernel_rfl) rfl)
    (chunks_stops _ (w.heap.size + 1 + 1 + 1) V 20000 (by decide) hN HV.out.2 W0 a c (HA.out.below hB0) hcN) (Below.refl _ _) (fun _ => rfl)
    (TextI w.heap.size (w.heap.size + 1 + 1) w) (TextI_own _ _ _ (Nat.le_refl _) _ (by omega)) (fun K pre W1 i v hK hc h => TextI_store (by omega) (by omega) hc h) ⟨⟨_, hBx0, World.ownsRow_nil _ _ _ _, trivial⟩, hB0⟩
    ?a1 ?assign ?body ?done
  case assign =>
    intro l x W K hK
    gi_wp2
    exact hK
  case body =>
    rintro l K pre x W hx ⟨⟨v, hv, hrow, _⟩, hB⟩ hCK hK hlen
    have HX := Lib.hid hx
    have HpL := bytesOf_length pre
    have HBX := Lib.hid (And.intro hv (And.intro hrow hB))
    have HCK := Lib.hid hCK
    have hKB : w.heap.size + 1 + 1 ≠ K := by omega
    obtain ⟨bs, hbs⟩ : ∃ bs, bytesOf pre = bs := ⟨_, rfl⟩
    have Hbs := Lib.hid hbs
    rw [hbs] at HpL HBX
    have HL : Hid (bs.length ≤ 400000) := Lib.hid (by omega)
    clear hv hrow hB hCK hbs HpL hK hx
    gi_wp2
    gi_loopw [6, 16] (fun v6 v16 wr => ∃ (i : Nat) (u : Value), i ≤ 19 ∧ v16 = .int .i64 (i : Int) ∧ v6 = .int .u64 ((x / 10 ^ i : Nat) : Int) ∧ Hid (Boxed wr (w.heap.size + 1 + 1) 71 u) ∧ Hid (OwnB wr w.heap.size u (chunkAt bs x i)) ∧ Hid (KeepsFrom W0.heap.size W wr ∧ KeptCells K W wr ∧ Below w.heap.size w wr)) (fun _ v16 _ => (19 - intOf v16).toNat)
    case atStart => exact ⟨0, v, by decide, rfl, by simp, Lib.hid HBX.out.1, Lib.hid (by rw [chunkAt_zero]; exact HBX.out.2.1), Lib.hid ⟨KeepsFrom.refl _ _, ⟨Nat.le_refl _, fun o h _ => h⟩, HBX.out.2.2⟩⟩
    case round =>
      obtain ⟨i, u, hi, rfl, rfl, hbx, hro, hks⟩ := hrel
      by_cases hlt : i < 19
      · obtain ⟨y, hy⟩ : ∃ y, x / 10 ^ i = y := ⟨_, rfl⟩
        obtain ⟨q, hq⟩ : ∃ q, y / 10 = q := ⟨_, rfl⟩
        obtain ⟨r, hr⟩ : ∃ r, y % 10 = r := ⟨_, rfl⟩
        have HY : Hid (x / 10 ^ i % 10 = r ∧ x / 10 ^ (i + 1) = q) := Lib.hid ⟨by rw [hy, hr], by rw [Nat.pow_succ, ← Nat.div_div_eq_div_mul, hy, hq]⟩
        rw [hy]
        have hv := hbx.out
        have hc := hv.cell
        have hlen2 : (chunkAt bs x i).length ≤ 400019 := by unfold chunkAt; rw [List.length_append, padD_length]; have := HL.out; omega
        obtain ⟨cs, hcs⟩ : ∃ cs, chunkAt bs x i = cs := ⟨_, rfl⟩
        have Hcs := Lib.hid hcs
        have hrow : wr.ownsRow w.heap.size 5 1 u cs.length (cs.map byteV) := by rw [← hcs]; exact hro.out
        rw [hcs] at hlen2
        have hr10 : r < 10 := by omega
        have f4 : (y : Int).tmod 10 = (r : Int) := by rw [Int.tmod_eq_emod_of_nonneg (by omega)]; omega
        have f6 : (y : Int) % 10 = (r : Int) := by omega
        have f3 : (y : Int).tdiv 10 = (q : Int) := by rw [Int.tdiv_eq_ediv_of_nonneg (by omega)]; omega
        have f5 : (y : Int) / 10 = (q : Int) := by omega
        have f9 : IntKind.u64.wrap (q : Int) = (q : Int) := by
          have : x / 10 ^ i ≤ x := Nat.div_le_self _ _
          have := HX.out
          rw [IntKind.wrap_u64]; omega
        have f7 : IntKind.u64.wrap (48 + (r : Int)) = 48 + (r : Int) := by rw [IntKind.wrap_u64]; omega
        have f8 : IntKind.u8.wrap (48 + (r : Int)) = 48 + (r : Int) := by rw [IntKind.wrap_u8]; omega
        have hBw := hks.out.2.2.size
        have Hlen2 := Lib.hid hlen2
        have HR10 := Lib.hid hr10
        have hCK2 := HCK.out.kept hks.out.2.1
        have hneK := hCK2.not_row (by decide) hrow
        have hKlt := hCK2.lt
        clear hcs hq hr hy hr10 hlen2 hCK2
        gi_wp2_with (gi_at_builtin; refine wpListIn_append_own _ rfl _ _ 71 rfl w.heap.size 5 i0 (.int .u8 0) 1 1 Tryd.underlying71 hi0 hz0 hz1 hz2 rfl (by decide) _ _ _ rfl (hrow.alloc _) ⟨wr.heap.size, 0, none⟩ 1 1 [.int .u8 (48 + (r : Int))] rfl rfl (cell_one_new _ _ _) (by simp [Value.oneCell']) (by have := Hlen2.out; unfold maxLen; omega) (by have := Hlen2.out; omega) (by simp; omega) ?_; intro v' w1 hown' hgrow _; obtain ⟨g', cap', rfl⟩ := ownsRow_succ hown'; obtain ⟨hv1, hv2, hr2, hk2, hb2⟩ := hv.appended (by decide) hrow hBw (by omega) hown' hgrow; have hc1 := hv1.cell; have hf1 := hv1.frozen; have hkc := kept_append (v' := Value.slice (some ⟨g', 0, none⟩) (cs.length + 1) cap') hneK hKB hKlt hgrow; have HG := Lib.hid (And.intro hv2 (And.intro hr2 (And.intro hk2 (And.intro hb2 hkc)))); clear hv2 hr2 hk2 hb2 hkc)
        go_roundw
        case rel =>
          refine ⟨i + 1, _, by omega, by go_num, by first | rfl | rw [HY.out.2] | (rw [HY.out.2, f9]), Lib.hid HG.out.1, Lib.hid ?_, Lib.hid ⟨hks.out.1.trans (HG.out.2.2.1.from _), hks.out.2.1.trans HG.out.2.2.2.2, hks.out.2.2.trans HG.out.2.2.2.1⟩⟩
          rw [chunkAt_succ, Hcs.out, HY.out.1]
          unfold OwnB
          rw [List.length_append, List.map_append]
          have e : List.map byteV [digB r] = [Value.int .u8 (48 + (r : Int))] := by rw [← byteV_digB HR10.out]; rfl
          rw [e]
          exact HG.out.2.1
        case measure => simp [intOf]; omega
      · obtain rfl : i = 19 := by omega
        clear hi hlt
        gi_wp2
        refine ⟨hks.out.1, hks.out.2.1, ⟨u, hbx.out, ?_, trivial⟩, hks.out.2.2⟩
        rw [bytesOf_snoc, Hbs.out]
        exact hro.out
  case done =>
    rintro D ys W hD rfl ⟨⟨v, hv, hrow, _⟩, hB⟩ hK
    have hc := hv.cell
    obtain ⟨bs, hbs⟩ : ∃ bs, bytesOf (chunksN V) = bs := ⟨_, rfl⟩
    have Hbs := Lib.hid hbs
    have hlen : (bytesOf (chunksN V)).length ≤ 400000 := by rw [bytesOf_length]; omega
    rw [hbs] at hrow hlen
    have hRv := reverse_own w.heap.size v bs W hrow (by omega) hB.size
    have hvb := hv.not_row (by decide) hrow
    have hDb : some D ≠ v.ownBlock := fun e => by
      rcases hrow.2 with ⟨rfl, _⟩ | ⟨g, cap, cur, rfl, _, hgb, _⟩
      · simp [Value.ownBlock] at e
      · obtain rfl : D = g := by simpa [Value.ownBlock] using e
        rw [hgb] at hK; cases hK
    have HB := Lib.hid (And.intro hB (And.intro hv (And.intro hK (And.intro hvb (And.intro hDb hrow)))))
    clear hB hv hrow hbs hlen hK hvb hDb
    go_wp2_with fail
    refine hRv.mono ?_
    rintro e w3 ⟨rfl, ho3, hg3⟩
    have hc3 := (HB.out.2.1.kept hg3 HB.out.2.2.2.1).cell
    have hK3 := (hg3.block D (Array.getElem?_eq_some_iff.1 HB.out.2.2.1).1 HB.out.2.2.2.2.1).trans HB.out.2.2.1
    have hB3 : Below w.heap.size w w3 := HB.out.1.grown hg3 HB.out.1.size (fun q hq => (World.ownsRow.lt HB.out.2.2.2.2.2 q hq).1)
    have hconv := OwnB.text ho3
    have hTr := TrimLeft_one ⟨bs.reverse.toArray⟩ 48 (by decide) w3
    have HTX : Hid (Lib.trimLeftB bs.reverse 48 = (digs V).reverse) := Lib.hid (by rw [← Hbs.out]; exact chunks_text V)
    obtain ⟨t, ht⟩ : ∃ t, (digs V).reverse = t := ⟨_, rfl⟩
    have Ht := Lib.hid ht
    have e5 : (⟨bs.reverse.toArray⟩ : ByteArray).data.toList = bs.reverse := rfl
    rw [e5, HTX.out, ht] at hTr
    have HB3 := Lib.hid (And.intro hB3 (And.intro hK3 hD))
    clear hg3 hB3 hK3 hRv ht e5 ho3
    go_wp2_with fail
    refine hTr.mono ?_
    rintro e w4 ⟨rfl, rfl⟩
    clear hTr
    by_cases hV0 : V = 0
    · obtain rfl : t = [] := by rw [← Ht.out]; exact (digs_reverse_nil V).2 hV0
      have HTX0 : Hid (textN V = [48]) := Lib.hid (by unfold textN; rw [if_pos hV0])
      clear hV0
      go_wp2_with fail
      refine ⟨by simp, .inl ⟨_, _, rfl, run_takeDeferred HB3.out.2.1, ?_⟩⟩
      exact ⟨_, results_tmp2 rfl _ _ _, by rw [HTX0.out]; rfl, HB3.out.1.trans (belowK_b (w := w) (Nat.le_refl _) _ D _ _ (by have := HB3.out.2.2; omega) HB3.out.2.1 rfl rfl)⟩
    · have hne : t ≠ [] := fun h => hV0 ((digs_reverse_nil V).1 (by rw [Ht.out, h]))
      have hne2 : t.isEmpty = false := by simpa using hne
      have HTX0 : Hid (textN V = t) := Lib.hid (by unfold textN; rw [if_neg hV0, Ht.out])
      clear hV0 hne
      go_wp2_with fail
      refine ⟨by simp, .inl ⟨_, _, rfl, run_takeDeferred HB3.out.2.1, ?_⟩⟩
      exact ⟨_, results_tmp2 rfl _ _ _, by rw [HTX0.out]; rfl, HB3.out.1.trans (belowK_b (w := w) (Nat.le_refl _) _ D _ _ (by have := HB3.out.2.2; omega) HB3.out.2.1 rfl rfl)⟩
end Go.Proofs.YtjfjkabmpiebpaaDoor
