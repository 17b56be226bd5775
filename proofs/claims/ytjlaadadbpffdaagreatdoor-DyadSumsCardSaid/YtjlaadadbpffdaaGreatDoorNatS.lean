/-
  nat.div, Div at every two numbers that may be.
-/
import Derived.Test.YtjlaadadbpffdaaGreatDoorNnN
import Derived.ScopeJumps
import Derived.WalkMore
set_option linter.unusedSimpArgs false
set_option linter.unusedVariables false
namespace Go.Proofs.YtjlaadadbpffdaaGreatDoor
open Go.RowKit Go.Plumb

/-- What holds at every jump back to the label: the frame, the guess, the worlds. -/
def DivJ (a : Option Addr) (bb bo c d m n N0 N1 capu gv gu vc uc k t j V U B4 B3 : Nat) (s : Int) (ua : Option Addr) (w2 : World) (lu lq : List Nat) (a1 : Act) (w1 : World) : Prop :=
  ∃ (g : Nat) (f : Nat → Value), a1 = Act.mk (#[Value.slice a m c, Value.slice (some ⟨bb, bo, none⟩) n d, undef, undef, Value.slice (some ⟨B4, 0, none⟩) (N1 - n) (N1 - n), Value.slice none 0 0, Value.int IntKind.i64 (k : Int), Value.slice (some ⟨gv, 0, none⟩) n vc, Value.slice (some ⟨gu, 0, none⟩) N1 capu, Value.int IntKind.i64 (n : Int), Value.int IntKind.i64 (j : Int), Value.slice (some ⟨gu, j, none⟩) (n + 1) (capu - j), Value.int IntKind.u64 (g : Int), (f 13), (f 14), Value.slice a m c, Value.slice (some ⟨bb, bo, none⟩) n d, Value.int IntKind.i64 s, Value.bool (decide (s < 0)), undef, undef, Value.slice (some ⟨bb, bo, none⟩) n d, Value.slice (some ⟨bb, bo, none⟩) n d, Value.int IntKind.i64 (n : Int), Value.int IntKind.i64 ((n : Int) - 1), Value.pointer (some ⟨bb, bo + (n - 1), none⟩), Value.int IntKind.u64 (t : Int), Value.int IntKind.i64 (k : Int), Value.slice (some ⟨bb, bo, none⟩) n d, Value.int IntKind.i64 (k : Int), Value.slice (some ⟨gv, 0, none⟩) n vc, Value.slice a m c, Value.int IntKind.i64 (k : Int), Value.slice ua N0 uc, Value.slice (some ⟨B3, 0, none⟩) 2 2, Value.slice (some ⟨gu, 0, none⟩) N1 capu, Value.slice (some ⟨gv, 0, none⟩) n vc, Value.int IntKind.i64 (n : Int), Value.slice (some ⟨gu, 0, none⟩) N1 capu, Value.int IntKind.i64 (N1 : Int), Value.int IntKind.i64 (n : Int), Value.int IntKind.i64 ((N1 : Int) - (n : Int)), Value.slice (some ⟨B4, 0, none⟩) (N1 - n) (N1 - n), Value.slice (some ⟨gu, 0, none⟩) N1 capu, Value.int IntKind.i64 (N1 : Int), Value.int IntKind.i64 (n : Int), Value.int IntKind.i64 ((N1 : Int) - (n : Int)), Value.int IntKind.i64 ((N1 : Int) - (n : Int) - 1), (f 48), (f 49), (f 50), (f 51), (f 52), (f 53), (f 54), (f 55), (f 56), (f 57), (f 58), (f 59), (f 60), (f 61), (f 62), (f 63), (f 64), (f 65), (f 66), (f 67), (f 68), (f 69), (f 70), (f 71), (f 72), (f 73), (f 74), (f 75), (f 76), (f 77), (f 78), (f 79), (f 80), (f 81), (f 82), (f 83), (f 84), (f 85), (f 86), (f 87), (f 88), (f 89), (f 90), (f 91), (f 92), (f 93), (f 94), (f 95), (f 96), (f 97), (f 98), (f 99), (f 100), (f 101), (f 102), (f 103), (f 104), (f 105), (f 106), (f 107), (f 108), (f 109), (f 110), (f 111), (f 112), (f 113), (f 114), (f 115), (f 116), (f 117), (f 118), (f 119), undef, undef, undef, undef, undef, undef, undef, undef, undef, undef]) [] ∧ g < 18446744073709551616 ∧ Hid (valL ((lu.drop j).take (n + 1)) / V ≤ g) ∧ Hid (DivRel w2 gu B4 N1 (N1 - n) capu V U (j + 1) lu lq w1)
theorem DivJ.mk {a : Option Addr} {bb bo c d m n N0 N1 capu gv gu vc uc k t j V U B4 B3 : Nat} {s : Int} {ua : Option Addr} {w2 : World} {lu lq : List Nat} {w1 : World} (g : Nat) (arr : Array Value) (he : arr = #[Value.slice a m c, Value.slice (some ⟨bb, bo, none⟩) n d, undef, undef, Value.slice (some ⟨B4, 0, none⟩) (N1 - n) (N1 - n), Value.slice none 0 0, Value.int IntKind.i64 (k : Int), Value.slice (some ⟨gv, 0, none⟩) n vc, Value.slice (some ⟨gu, 0, none⟩) N1 capu, Value.int IntKind.i64 (n : Int), Value.int IntKind.i64 (j : Int), Value.slice (some ⟨gu, j, none⟩) (n + 1) (capu - j), Value.int IntKind.u64 (g : Int), (arr.getD 13 undef), (arr.getD 14 undef), Value.slice a m c, Value.slice (some ⟨bb, bo, none⟩) n d, Value.int IntKind.i64 s, Value.bool (decide (s < 0)), undef, undef, Value.slice (some ⟨bb, bo, none⟩) n d, Value.slice (some ⟨bb, bo, none⟩) n d, Value.int IntKind.i64 (n : Int), Value.int IntKind.i64 ((n : Int) - 1), Value.pointer (some ⟨bb, bo + (n - 1), none⟩), Value.int IntKind.u64 (t : Int), Value.int IntKind.i64 (k : Int), Value.slice (some ⟨bb, bo, none⟩) n d, Value.int IntKind.i64 (k : Int), Value.slice (some ⟨gv, 0, none⟩) n vc, Value.slice a m c, Value.int IntKind.i64 (k : Int), Value.slice ua N0 uc, Value.slice (some ⟨B3, 0, none⟩) 2 2, Value.slice (some ⟨gu, 0, none⟩) N1 capu, Value.slice (some ⟨gv, 0, none⟩) n vc, Value.int IntKind.i64 (n : Int), Value.slice (some ⟨gu, 0, none⟩) N1 capu, Value.int IntKind.i64 (N1 : Int), Value.int IntKind.i64 (n : Int), Value.int IntKind.i64 ((N1 : Int) - (n : Int)), Value.slice (some ⟨B4, 0, none⟩) (N1 - n) (N1 - n), Value.slice (some ⟨gu, 0, none⟩) N1 capu, Value.int IntKind.i64 (N1 : Int), Value.int IntKind.i64 (n : Int), Value.int IntKind.i64 ((N1 : Int) - (n : Int)), Value.int IntKind.i64 ((N1 : Int) - (n : Int) - 1), (arr.getD 48 undef), (arr.getD 49 undef), (arr.getD 50 undef), (arr.getD 51 undef), (arr.getD 52 undef), (arr.getD 53 undef), (arr.getD 54 undef), (arr.getD 55 undef), (arr.getD 56 undef), (arr.getD 57 undef), (arr.getD 58 undef), (arr.getD 59 undef), (arr.getD 60 undef), (arr.getD 61 undef), (arr.getD 62 undef), (arr.getD 63 undef), (arr.getD 64 undef), (arr.getD 65 undef), (arr.getD 66 undef), (arr.getD 67 undef), (arr.getD 68 undef), (arr.getD 69 undef), (arr.getD 70 undef), (arr.getD 71 undef), (arr.getD 72 undef), (arr.getD 73 undef), (arr.getD 74 undef), (arr.getD 75 undef), (arr.getD 76 undef), (arr.getD 77 undef), (arr.getD 78 undef), (arr.getD 79 undef), (arr.getD 80 undef), (arr.getD 81 undef), (arr.getD 82 undef), (arr.getD 83 undef), (arr.getD 84 undef), (arr.getD 85 undef), (arr.getD 86 undef), (arr.getD 87 undef), (arr.getD 88 undef), (arr.getD 89 undef), (arr.getD 90 undef), (arr.getD 91 undef), (arr.getD 92 undef), (arr.getD 93 undef), (arr.getD 94 undef), (arr.getD 95 undef), (arr.getD 96 undef), (arr.getD 97 undef), (arr.getD 98 undef), (arr.getD 99 undef), (arr.getD 100 undef), (arr.getD 101 undef), (arr.getD 102 undef), (arr.getD 103 undef), (arr.getD 104 undef), (arr.getD 105 undef), (arr.getD 106 undef), (arr.getD 107 undef), (arr.getD 108 undef), (arr.getD 109 undef), (arr.getD 110 undef), (arr.getD 111 undef), (arr.getD 112 undef), (arr.getD 113 undef), (arr.getD 114 undef), (arr.getD 115 undef), (arr.getD 116 undef), (arr.getD 117 undef), (arr.getD 118 undef), (arr.getD 119 undef), undef, undef, undef, undef, undef, undef, undef, undef, undef, undef]) (h1 : g < 18446744073709551616) (h2 : valL ((lu.drop j).take (n + 1)) / V ≤ g) (h3 : Hid (DivRel w2 gu B4 N1 (N1 - n) capu V U (j + 1) lu lq w1)) : DivJ a bb bo c d m n N0 N1 capu gv gu vc uc k t j V U B4 B3 s ua w2 lu lq (Act.mk arr []) w1 :=
  ⟨g, fun q => arr.getD q undef, congrArg (fun x => Act.mk x []) he, h1, Lib.hid h2, h3⟩
theorem run_makeS (n m : Nat) (hnm : m ≤ n) (h1 : n ≤ 100000) (w : World) :
    Sem.run Tryz.prog ((Instr.makeSlice 22 (.int .i64 ((n : Int) - m)) (.int .i64 ((n : Int) - m)))) w = .ok (.slice (some ⟨w.heap.size, 0, none⟩) (n - m) (n - m)) (w.alloc (.cells (zerosA (n - m)) 31)) := by
  have := run_makeI ((n : Int) - m) (by omega) (by omega) w
  rwa [show ((n : Int) - m).toNat = n - m by omega] at this
set_option maxRecDepth 20000 in
set_option maxHeartbeats 4000000 in
theorem div_core (a b : Option Addr) (c d A B k : Nat) (w : World) (hA : Arr w a c (limbs A)) (hB : Arr w b d (limbs B)) (hlA : (limbs A).length ≤ 5000) (hlB : (limbs B).length ≤ 5000) (hge : B ≤ A) (hB0 : B ≠ 0)
    (hk : k + lenN ((limbs B).getD ((limbs B).length - 1) 0) = 64) :
    Calls Tryz.prog 138 #[.slice a (limbs A).length c, .slice b (limbs B).length d] w fun e w' => ∃ a' c' b' d', e = .returned (.tuple #[.slice a' (limbs (A / B)).length c', .slice b' (limbs (A % B)).length d']) ∧ Arr w' a' c' (limbs (A / B)) ∧ Arr w' b' d' (limbs (A % B)) ∧ Below w.heap.size w w' := by
  have hcmp := cmp_any a b c d A B w hA hB
  have hs0 : ¬ cmpN A B < 0 := by rw [cmpN_lt]; omega
  obtain ⟨s, hs⟩ : ∃ s, cmpN A B = s := ⟨_, rfl⟩
  rw [hs] at hcmp hs0
  obtain ⟨n, hn⟩ : ∃ n, (limbs B).length = n := ⟨_, rfl⟩
  obtain ⟨m, hm⟩ : ∃ m, (limbs A).length = m := ⟨_, rfl⟩
  obtain ⟨t, ht⟩ : ∃ t, (limbs B).getD ((limbs B).length - 1) 0 = t := ⟨_, rfl⟩
  rw [ht] at hk
  rw [hn] at ht
  obtain ⟨hVl, hVt⟩ := norm_top B n k t hB0 hn ht hk
  have hp : 0 < (limbs B).length := List.length_pos_iff.2 fun e => hB0 ((limbs_nil_iff B).1 e)
  obtain ⟨bb, bo, eb, hcb⟩ := hB.2.2.2 (n - 1) (by omega)
  subst eb
  rw [ht] at hcb
  have htl : t < 18446744073709551616 := by rw [← ht]; exact (limbs_limbs B).get _
  have hlz : ∀ w', Calls Tryz.prog 135 #[.int .u64 (t : Int)] w' fun e w'' => e = .returned (.int .i64 (k : Int)) ∧ w' = w'' := fun w' => by
    have h := lz64_any (t : Int) w' (by omega) (by omega)
    have e : 64 - lenI (t : Int) = (k : Int) := by unfold lenI; rw [Int.toNat_natCast]; omega
    rw [e] at h
    exact h
  have HA : Hid (∀ wr, Below w.heap.size w wr → Arr wr a c (limbs A)) := Lib.hid fun wr h => hA.below h
  have HB : Hid (∀ wr, Below w.heap.size w wr → Arr wr (some ⟨bb, bo, none⟩) d (limbs B)) := Lib.hid fun wr h => hB.below h
  have hblt : bb < w.heap.size := cell_lt hcb
  rw [hn] at hcmp hlB hp ⊢
  rw [hm] at hcmp hlA ⊢
  have Hn := Lib.hid hn
  have Hm := Lib.hid hm
  have HVl := Lib.hid hVl
  have HVt := Lib.hid hVt
  have Hge := Lib.hid hge
  have HB0 := Lib.hid hB0
  have hk64 : k ≤ 64 := by omega
  have z1 : (0 : Int) ≤ (n : Int) - 1 := by omega
  have z2 : (n : Int) - 1 < (n : Int) := by omega
  have z3 : ((n : Int) - 1).toNat = n - 1 := by omega
  clear hA hB hn hm hs ht hk hVl hVt hge hB0
  go_enter Tryz.func138, Tryz.ntmps138
  go_wp2_with fail
  refine hcmp.mono ?_
  rintro e w1 ⟨rfl, hb⟩
  have hcb1 := (hb.cell (p := ⟨bb, bo + (n - 1), none⟩) hblt).trans hcb
  have HB1 := Lib.hid hb
  clear hcmp hb hcb
  go_wp2_with fail
  refine (hlz _).mono ?_
  rintro e w' ⟨rfl, rfl⟩
  have hSh := shl_any _ _ k B w1 (HB.out w1 HB1.out) (by have := Hn.out; omega) (by omega)
  rw [Hn.out, HVl.out] at hSh
  go_wp2_with fail
  refine hSh.mono ?_
  rintro e w2 ⟨va, vc, rfl, hov, hb2⟩
  obtain ⟨gv, capv, ev, hgv1, hgv2, _, hcv⟩ := OwnL.pos (by rw [← HVl.out] at hov; exact hov) (by rw [HVl.out]; exact hp)
  simp only [Value.slice.injEq] at ev
  obtain ⟨rfl, e3, rfl⟩ := ev
  clear e3
  have HOV : Hid (∀ wr, Below w2.heap.size w2 wr → Arr wr (some ⟨gv, 0, none⟩) vc (limbs (B * 2 ^ k))) := Lib.hid fun wr h => (OwnL.arr' hov (limbs_limbs _)).below h
  have HB2 := Lib.hid (below_step HB1.out hb2)
  have hSh2 := shl_any _ _ k A w2 (HA.out w2 HB2.out) (by have := Hm.out; omega) (by omega)
  rw [Hm.out] at hSh2
  clear hSh hov hb2
  go_wp2_with fail
  refine hSh2.mono ?_
  rintro e w3 ⟨ua, uc, rfl, hou, hb3⟩
  obtain ⟨lu0, hlu0⟩ : ∃ l, limbs (A * 2 ^ k) = l := ⟨_, rfl⟩
  rw [hlu0] at hou ⊢
  have hulen : n ≤ lu0.length := by
    rw [← HVl.out, ← hlu0]
    apply Nat.le_of_not_lt
    intro h
    have h1 := lt_of_length h
    have h2 := Nat.mul_le_mul_right (2 ^ k) Hge.out
    omega
  have hulen2 : lu0.length ≤ m + 2 := by
    rw [← hlu0]
    have h1 := length_prod_le A (2 ^ k)
    rw [Hm.out] at h1
    have h2 := length_limbs_le (2 ^ k) 2 (by
      have h3 := Nat.pow_le_pow_right (show 0 < 2 by decide) hk64
      have h4 : (2 : Nat) ^ 64 < 18446744073709551616 ^ 2 := by decide
      omega)
    omega
  have huL : Limbs lu0 := by rw [← hlu0]; exact limbs_limbs _
  have huV : valL lu0 = A * 2 ^ k := by rw [← hlu0, valL_limbs]
  obtain ⟨N0, hN0⟩ : ∃ N0, lu0.length = N0 := ⟨_, rfl⟩
  rw [hN0] at hou hulen hulen2 ⊢
  have HOU := Lib.hid hou
  have HN0 := Lib.hid hN0
  have HuL := Lib.hid huL
  have HuV := Lib.hid huV
  have HB3 := Lib.hid hb3
  have hs23 := hb3.size
  have hs12 : w.heap.size ≤ w2.heap.size := HB2.out.size
  have hs01 : w.heap.size ≤ w1.heap.size := HB1.out.size
  clear hSh2 hou hb3 hlu0 hN0 huL huV
  obtain ⟨i0, hi, hz0, hz1, hz2⟩ := info_parts info_u64
  go_wp2_with (at_builtin; refine wpList_append_own _ rfl _ _ 22 rfl w2.heap.size 31 i0 (.int .u64 0) 1 8 Tryz.underlying22 hi hz0 hz1 hz2 rfl (by decide) _ N0 (lu0.map limbV) rfl ?c0 ⟨w3.heap.size, 0, none⟩ 2 2 [limbV 0, limbV 0] rfl ?c1 ?c2 ?c3 ?c4 ?c5 ?c6 ?_)
  case c0 => exact World.ownsRow.alloc (by have h := HOU.out; unfold OwnL at h; rw [HN0.out] at h; exact h) _
  case c1 => rfl
  case c2 =>
    intro j u hj
    match j, hj with
    | 0, hj => simp at hj; subst hj; simp [Addr.add, go_sem, limbV]
    | 1, hj => simp at hj; subst hj; simp [Addr.add, go_sem, limbV]
  case c3 => intro u hu; simp at hu; subst hu; rfl
  case c4 => unfold maxLen; omega
  case c5 => omega
  case c6 => simp; omega
  intro v' w4 hown4 hgrow4 _
  have hown4' : OwnL w4 w2.heap.size v' (lu0 ++ [0, 0]) := by
    unfold OwnL
    rw [List.length_append, HN0.out, List.map_append]
    exact hown4
  obtain ⟨gu, capu, rfl, hgu1, hgu2, hcu, hnu⟩ := OwnL.pos hown4' (by simp)
  obtain ⟨lu1, hlu1⟩ : ∃ l, lu0 ++ [0, 0] = l := ⟨_, rfl⟩
  rw [hlu1] at hown4' hnu ⊢
  obtain ⟨N1, hN1⟩ : ∃ N, lu1.length = N := ⟨_, rfl⟩
  have hN1' : N1 = N0 + 2 := by rw [← hN1, ← hlu1, List.length_append, HN0.out]; rfl
  rw [hN1] at hown4' hnu ⊢
  have HN1 := Lib.hid hN1
  have Hlu1 := Lib.hid hlu1
  have HOU1 := Lib.hid hown4'
  have HB4 : Hid (Below w2.heap.size w2 w4) := Lib.hid (by
    refine (HB3.out.alloc (by omega) _).grown hgrow4 (by simp; omega) ?_
    intro q hq
    have h := HOU.out
    unfold OwnL at h
    exact (World.ownsRow.lt h q hq).1)
  have hs34 : w3.heap.size ≤ w4.heap.size := by have := hgrow4.size; simp at this; omega
  have hmk := run_makeS N1 n (by omega) (by omega)
  have Hgu1 := Lib.hid hgu1
  have hguw : gu < w4.heap.size := hgu2
  have Hgv2 := Lib.hid hgv2
  have hgvu : gv ≠ gu := by omega
  have hnN : n ≤ N1 := by omega
  have hN1b : N1 ≤ 10000 := by omega
  have HN1' := Lib.hid hN1'
  clear hlu1 hN1 hown4 hown4' hgrow4 hgu1 hgu2 hgv1 hgv2 HOU hN1'
  clear hz0 hz1 hz2 hi
  go_wp2_with fail
  obtain ⟨V, hV⟩ : ∃ V, B * 2 ^ k = V := ⟨_, rfl⟩
  obtain ⟨lv, hlv⟩ : ∃ lv, limbs (B * 2 ^ k) = lv := ⟨_, rfl⟩
  have HlvV : Hid (valL lv = V ∧ Limbs lv ∧ lv.length = n ∧ 9223372036854775808 ≤ lv.getD (n - 1) 0) := Lib.hid ⟨by rw [← hlv, valL_limbs, hV], by rw [← hlv]; exact limbs_limbs _, by rw [← hlv]; exact HVl.out, by rw [← hlv]; exact HVt.out⟩
  rw [hlv] at HOV
  have HV0 : Hid (0 < V ∧ V < 18446744073709551616 ^ n) := Lib.hid ⟨by rw [← hV]; exact Nat.mul_pos (Nat.pos_of_ne_zero HB0.out) (Nat.two_pow_pos k), by have h := lt_pow_length (B * 2 ^ k); rw [HVl.out, hV] at h; exact h⟩
  have HV := Lib.hid hV
  clear hV hlv HVl HVt
  go_loopw [10] (fun v wr => ∃ (m' : Nat) (lu lq : List Nat), m' ≤ N1 - n ∧ v = .int .i64 ((m' : Int) - 1) ∧ Hid (DivRel w2 gu w4.heap.size N1 (N1 - n) capu V (A * 2 ^ k) m' lu lq wr)) (fun v _ => (intOf v + 1).toNat)
  case atStart =>
    have ho := owns_zeros w4 w2.heap.size (N1 - n) (by have := HB4.out.size; omega) (by omega)
    have hB5 : Below w4.heap.size w4 (w4.alloc (.cells (zerosA (N1 - n)) 31)) := (Below.refl _ _).alloc (Nat.le_refl _) _
    refine ⟨N1 - n, lu1, List.replicate (N1 - n) 0, Nat.le_refl _, by go_num, Lib.hid ⟨HN1.out, ?_, by simp, Limbs.replicate _, ?_, ?_, fun i _ => by simp [List.getD, List.getElem?_replicate]; split <;> rfl, OwnL.later HOU1.out hB5, ?_, HB4.out.alloc (by have := HB4.out.size; omega) _⟩⟩
    · rw [← Hlu1.out]; exact HuL.out.append (Limbs.cons (by decide) (Limbs.cons (by decide) Limbs.nil))
    · rw [valL_replicate, ← Hlu1.out, valL_append, HuV.out]; simp [valL]
    · exact div_top lu0 lu1 lv n N0 N1 V Hlu1.out.symm HN0.out HN1'.out HuL.out hp hulen HlvV.out.2.2.1 HlvV.out.1 (by have := HlvV.out.2.2.2; omega) HV0.out.1
    · unfold OwnL
      rw [List.length_replicate]
      exact ho
  case round =>
    obtain ⟨m', lu, lq, hm', rfl, hR⟩ := hrel
    cases m' with
    | zero =>
      obtain ⟨e1, e2⟩ := quot_unique (A * 2 ^ k) V (valL lq) (valL lu) hR.out.val (by have := hR.out.top; simpa using this)
      rw [← HV.out] at e1 e2
      rw [shifted_div] at e1
      have hAu := OwnL.arr' (by have := hR.out.ownu; rw [← hR.out.lenu] at this; exact this) hR.out.limu
      have hAq := OwnL.arr' (by have := hR.out.ownq; rw [← hR.out.lenq] at this; exact this) hR.out.limq
      have hTu := trim_any _ _ _ _ hAu
      have hAu2 := hAu.norm
      have hAq2 := hAq.norm
      have hSr := shr_any _ _ k _ wr hAu2 (by
        have h := limbs_length_le hR.out.limu
        have := hR.out.lenu
        omega) (by omega)
      rw [e2, shifted_mod] at hSr
      rw [e1] at hAq2
      rw [hR.out.lenu, e2] at hTu
      have HAq := Lib.hid hAq
      have HAq2 := Lib.hid hAq2
      have Hlq := Lib.hid (show lq.length = N1 - n ∧ valL lq = A / B from ⟨hR.out.lenq, e1⟩)
      have HBr : Hid (Below w.heap.size w wr) := Lib.hid (below_step HB2.out hR.out.below)
      clear hAu hAq hAu2 hAq2 e1 e2
      go_wp2_with fail
      refine hTu.mono ?_
      rintro e w' ⟨rfl, rfl⟩
      clear hTu
      go_wp2_with fail
      refine hSr.mono ?_
      rintro e w5 ⟨ra, rc, rfl, hor, hb5⟩
      have HArr := Lib.hid (OwnL.arr' hor (limbs_limbs _))
      have HB5 := Lib.hid hb5
      have hTq := trim_any _ _ _ _ (HAq.out.below hb5)
      rw [Hlq.out.1, Hlq.out.2] at hTq
      clear hSr hor hb5
      go_wp2_with fail
      refine hTq.mono ?_
      rintro e w' ⟨rfl, rfl⟩
      clear hTq
      go_wp2_with fail
      go_ret2
      exact ⟨_, _, _, _, rfl, by have h := HAq2.out.below HB5.out; rw [Hlq.out.1] at h; exact h, HArr.out, below_step HBr.out HB5.out⟩
    | succ j =>
      have ej : ((j + 1 : Nat) : Int) - 1 = (j : Int) := by omega
      rw [ej]
      -- ROUND
      have hlt : j < N1 - n := hm'
      have hjn : j + n + 1 ≤ N1 := by omega
      have hcapu : N1 ≤ capu := by omega
      obtain ⟨x1, hx1⟩ : ∃ x, lu.getD (j + n) 0 = x := ⟨_, rfl⟩
      obtain ⟨x0, hx0⟩ : ∃ x, lu.getD (j + n - 1) 0 = x := ⟨_, rfl⟩
      obtain ⟨y, hy⟩ : ∃ x, lv.getD (n - 1) 0 = x := ⟨_, rfl⟩
      have hx1l : x1 < 18446744073709551616 := by rw [← hx1]; exact hR.out.limu.get _
      have hx0l : x0 < 18446744073709551616 := by rw [← hx0]; exact hR.out.limu.get _
      have hyl : y < 18446744073709551616 := by rw [← hy]; exact HlvV.out.2.1.get _
      have hyt : 9223372036854775808 ≤ y := by rw [← hy]; exact HlvV.out.2.2.2
      have hcx1 : wr.cell? ⟨gu, j + n, none⟩ = some (.int .u64 (x1 : Int)) := by
        rw [← hx1]
        have := hR.out.lenu
        exact OwnL.cell hR.out.ownu (j + n) _ (by simp [List.getD, show j + n < lu.length by omega])
      have hcx0 : wr.cell? ⟨gu, j + n - 1, none⟩ = some (.int .u64 (x0 : Int)) := by
        rw [← hx0]
        have := hR.out.lenu
        exact OwnL.cell hR.out.ownu (j + n - 1) _ (by simp [List.getD, show j + n - 1 < lu.length by omega])
      have hcy : wr.cell? ⟨gv, n - 1, none⟩ = some (.int .u64 (y : Int)) := by
        obtain ⟨q1, q2, e, hc⟩ := (HOV.out wr hR.out.below).2.2.2 (n - 1) (by rw [HlvV.out.2.2.1]; omega)
        cases e
        rw [hy, Nat.zero_add] at hc
        exact hc
      have HX1 := Lib.hid hx1
      have HX0 := Lib.hid hx0
      have HY := Lib.hid hy
      have y1 : (0 : Int) ≤ (j : Int) := by omega
      have y2 : (j : Int) ≤ (j : Int) + (n : Int) + 1 := by omega
      have y3 : (j : Int) + (n : Int) + 1 ≤ (capu : Int) := by omega
      clear hx1 hx0 hy
      have hcapm : capu ≤ maxLen := hcu
      go_wp2_with fail
      refine wp_scope_jumps 0 (DivJ a bb bo c d m n N0 N1 capu gv gu vc uc k t j V (A * 2 ^ k) w4.heap.size w3.heap.size s ua w2 lu lq) (fun a' _ => (intOf (a'.tmps.getD 12 undef)).toNat) rfl ?first ?pass
      case first =>
        have hjj : j + n + 1 - j = n + 1 := by omega
        have q1 : (0 : Int) ≤ (n : Int) := by omega
        have q2 : (n : Int) < (n : Int) + 1 := by omega
        have q3 : (n : Int) - 1 < (n : Int) + 1 := by omega
        have q4 : (0 : Int) ≤ (n : Int) - 1 := by omega
        have q5 : (n : Int) - 1 < (n : Int) := by omega
        have q6 : ((n : Int) - 1).toNat = n - 1 := by omega
        have q7 : IntKind.i64.wrap ((n : Int) - 1) = (n : Int) - 1 := IntWalk.i64_in _ ⟨by omega, by omega⟩
        have q8 : j + (n - 1) = j + n - 1 := by omega
        have q9 : (1 : Int) ≤ (n : Int) := by omega
        have q10 : 1 ≤ n := by omega
        have q11 : (n : Int) < (n : Int) + 1 + 1 := by omega
        have q12 : decide ((0 : Int) ≤ (n : Int) - 1) = true := by simp; omega
        have q13 : decide ((n : Int) - 1 < (n : Int) + 1) = true := by simp; omega
        have q14 : n - 1 < n + 1 := by omega
        have q15 : n - 1 < n := by omega
        have hguL : gu < wr.heap.size := cell_lt hcx1
        have hgvL : gv < wr.heap.size := cell_lt hcy
        by_cases hxy : x1 < y
        · have hg0 : Hid (valL ((lu.drop j).take (n + 1)) / V ≤ (x1 * 18446744073709551616 + x0) / y) := Lib.hid (by
            have h := div_guess lu lv j n V x1 x0 y hR.out.limu (by have := hR.out.lenu; omega) hp HlvV.out.2.2.1 HlvV.out.1 HX1.out HX0.out HY.out (by omega)
            exact h)
          have hDv := fun w' => div64_any x1 x0 y w' hxy hx0l hyt hyl
          have hgl : (x1 * 18446744073709551616 + x0) / y < 18446744073709551616 := by
            rw [Nat.div_lt_iff_lt_mul (by omega)]
            have := Nat.mul_le_mul_left 18446744073709551616 (show x1 + 1 ≤ y from hxy)
            rw [Nat.mul_add] at this
            omega
          obtain ⟨g, hg⟩ : ∃ g, (x1 * 18446744073709551616 + x0) / y = g := ⟨_, rfl⟩
          simp only [hg] at hDv
          rw [hg] at hg0 hgl
          have HG := hg0
          clear hg hg0
          go_wp2_with fail
          go_quiet (fail)
          go_wp2_with fail
          simp only [hjj]
          go_region_held3 (fun w' => w'.cell? ⟨gu, j + n, none⟩ = some (.int .u64 (x1 : Int)) ∧ w'.cell? ⟨gu, j + n - 1, none⟩ = some (.int .u64 (x0 : Int)) ∧ w'.cell? ⟨gv, n - 1, none⟩ = some (.int .u64 (y : Int))) (first | exact ⟨hcx1, hcx0, hcy⟩ | exact ⟨d0, d1, d2⟩ | go_keep) ((first | (go_at_call 165; (refine (hDv _).mono ?_); rintro e w' ⟨rfl, hb⟩; have d0 := (hb.cell (p := ⟨gu, j + n, none⟩) hguL).trans hcx1; have d1 := (hb.cell (p := ⟨gu, j + n - 1, none⟩) hguL).trans hcx0; have d2 := (hb.cell (p := ⟨gv, n - 1, none⟩) hgvL).trans hcy; have HBD := Lib.hid (below_step (w0 := wr) (by (repeat' (first | exact Below.refl _ _ | assumption | (refine below_alloc ?_ _) | (refine Below.setCell ?_ ?_ _) | (refine Below.drew ?_) | (refine below_drewN ?_ _))) <;> (first | (simp; done) | (simp; omega) | omega)) hb); have HR := Lib.hid (DivRel.later hR.out HBD.out); clear hb HBD)))
          all_goals (go_wp2_with fail; go_step3)
          all_goals generalize w' = wx at *
          all_goals clear d0 d1 d2
          all_goals (
            have hmk2 := run_make1 n (by omega)
            have hM := mul_any w2.heap.size wx.heap.size 0 (n + 1) (n + 1) (n + 1) (some ⟨gv, 0, none⟩) vc g lv (List.replicate (n + 1) 0) (wx.alloc (.cells (zerosA (n + 1)) 31)) ((HOV.out wx HR.out.below).below (by (repeat' (first | exact Below.refl _ _ | assumption | (refine below_alloc ?_ _) | (refine Below.setCell ?_ ?_ _) | (refine Below.drew ?_) | (refine below_drewN ?_ _))) <;> (first | (simp; done) | (simp; omega) | omega))) (by have h := owns_zeros wx w2.heap.size (n + 1) HR.out.below.size (by omega); unfold OwnL; rw [List.length_replicate]; exact h) (fun q off e _ => by cases e; have := HR.out.below.size; have := Hgv2.out; omega) (by rw [HlvV.out.2.2.1]; simp) (by rw [HlvV.out.2.2.1]; omega) (Limbs.replicate _) (by simp; omega) hgl
            rw [HlvV.out.2.2.1, List.length_replicate] at hM
            go_wp2_with fail
            refine hM.mono ?_
            rintro e w5 ⟨os, cy, rfl, hcyl, hos, hlos, he, ho5, hg5⟩
            have hP := mulp_own (n := n) hos HlvV.out.2.2.1 HlvV.out.1 hcyl hlos he ho5 hg5
            have hcp := hP.1
            have hfp := hP.2.1
            have HP := Lib.hid hP.2.2
            clear hM hP he ho5 hg5 hos hlos
            go_wp2_with fail
            obtain ⟨w6, hw6⟩ : ∃ w6, w5.setCell ⟨wx.heap.size, n, none⟩ (.int .u64 (cy : Int)) = w6 := ⟨_, rfl⟩
            rw [hw6] at HP ⊢
            clear hw6 hcp hfp
            obtain ⟨lp, hlp, hvp, hlimp, hop, hbp⟩ := HP.out
            have hwn := DivRel.window HR.out j (n + 1) (by omega) hcapu hcapm
            have hlw : ((lu.drop j).take (n + 1)).length = n + 1 := by have := HR.out.lenu; simp; omega
            obtain ⟨lw, hlwe⟩ : ∃ l, (lu.drop j).take (n + 1) = l := ⟨_, rfl⟩
            rw [hlwe] at hwn hlw HG
            have hAp : Arr w6 (some ⟨wx.heap.size, 0, none⟩) (n + 1) lp := OwnL.arr' hop hlimp
            have hT := trim_any _ _ _ _ hAp
            rw [hlp, hvp] at hT
            have hAp2 := hAp.norm
            rw [hvp] at hAp2
            have hC := clone_pos _ _ _ _ (hwn.below hbp) (by rw [hlw]; omega) (by rw [hlw]; omega)
            rw [hlw] at hC
            have HAp2 : Hid (∀ wr, Below w6.heap.size w6 wr → Arr wr (some ⟨wx.heap.size, 0, none⟩) (n + 1) (limbs (g * V))) := Lib.hid fun wr h => hAp2.below h
            have HAp1 : Hid (∀ wr, Below w6.heap.size w6 wr → Arr wr (some ⟨wx.heap.size, 0, none⟩) (n + 1) lp) := Lib.hid fun wr h => hAp.below h
            have Hlp : Hid (lp.length = n + 1 ∧ valL lp = g * V) := Lib.hid ⟨hlp, hvp⟩
            have HR6 := Lib.hid (DivRel.later HR.out hbp)
            have Hlw : Hid ((lu.drop j).take (n + 1) = lw ∧ lw.length = n + 1 ∧ Limbs lw) := Lib.hid ⟨hlwe, hlw, hwn.2.2.1⟩
            have HWn : Hid (∀ wr, Below w6.heap.size w6 wr → Arr wr (some ⟨gu, j, none⟩) (capu - j) lw) := Lib.hid fun wr h => (hwn.below hbp).below h
            clear HP hlp hvp hlimp hop hbp hwn hlw hlwe hAp hAp2
            refine hT.mono ?_
            rintro e w' ⟨rfl, rfl⟩
            clear hT
            go_wp2_with fail
            refine hC.mono ?_
            rintro e w7 ⟨gc, cc, rfl, hoc, hb7, hgc⟩
            have hAc := OwnL.arr' hoc Hlw.out.2.2
            have hT2 := trim_any _ _ _ _ hAc
            rw [Hlw.out.2.1] at hT2
            have hAc2 := hAc.norm
            obtain ⟨W, hW⟩ : ∃ W, valL lw = W := ⟨_, rfl⟩
            rw [hW] at hT2 hAc2 HG
            have HW := Lib.hid hW
            have HB7 := Lib.hid hb7
            have hcmp2 := cmp_any _ _ _ _ (g * V) W w7 (HAp2.out w7 hb7) hAc2
            obtain ⟨s2, hs2⟩ : ∃ s2, cmpN (g * V) W = s2 := ⟨_, rfl⟩
            rw [hs2] at hcmp2
            have HS2 : Hid (0 < s2 ↔ W < g * V) := Lib.hid (by rw [← hs2]; unfold cmpN; split <;> (try split) <;> omega)
            clear hC hoc hb7 hAc hAc2 hW hs2
            go_wp2_with fail
            refine hT2.mono ?_
            rintro e w' ⟨rfl, rfl⟩
            clear hT2
            go_wp2_with fail
            refine hcmp2.mono ?_
            rintro e w8 ⟨rfl, hb8⟩
            have HB8 := Lib.hid (below_step HB7.out hb8)
            clear hcmp2 hb8
            by_cases hgo : 0 < s2
            · have hlt := HS2.out.1 hgo
              obtain ⟨hg1, hle2⟩ := guess_less W V g HG.out hlt HV0.out.1
              obtain ⟨p, hgp⟩ : ∃ p, g = p + 1 := ⟨g - 1, by omega⟩
              rw [show g - 1 = p by omega] at hle2
              have HL2 : Hid (valL ((lu.drop j).take (n + 1)) / V ≤ p) := Lib.hid (by rw [Hlw.out.1, HW.out]; exact hle2)
              have hgi : (g : Int) - 1 = (p : Int) := by omega
              have hpl : p < 18446744073709551616 := by omega
              have hpg : p < g := by omega
              have HR5 := Lib.hid (DivRel.later HR6.out HB8.out)
              clear hle2 hlt hg1 hgp
              go_wp2_with fail
              go_step3
              exact ⟨rfl, DivJ.mk p _ rfl hpl HL2.out HR5⟩
            · have hQ := guess_fits W V g HG.out (by have := HS2.out; omega) HV0.out.1
              have hle : g * V ≤ W := by have := HS2.out; omega
              have hRl : (limbs (W - g * V)).length ≤ n := length_limbs_le _ _ (by
                have h1 := Nat.div_add_mod W V
                have h2 := Nat.mod_lt W HV0.out.1
                have h3 := HV0.out.2
                rw [← hQ, Nat.mul_comm] at h1
                omega)
              have HRl := Lib.hid hRl
              have Hle := Lib.hid hle
              have HQ := Lib.hid hQ
              have hC2 := clone_pos _ _ _ _ (HWn.out w8 HB8.out) (by rw [Hlw.out.2.1]; omega) (by rw [Hlw.out.2.1]; omega)
              rw [Hlw.out.2.1] at hC2
              clear hQ hle hRl
              go_wp2_with fail
              refine hC2.mono ?_
              rintro e w9 ⟨gc2, cc2, rfl, hoc2, hb9, hgc2⟩
              have hAc3 := OwnL.arr' hoc2 Hlw.out.2.2
              have hT3 := trim_any _ _ _ _ hAc3
              rw [Hlw.out.2.1, HW.out] at hT3
              have hAc4 := hAc3.norm
              rw [HW.out] at hAc4
              have HB9 := Lib.hid (below_step HB8.out hb9)
              have hT4 := trim_any _ _ _ _ (HAp1.out w9 HB9.out)
              rw [Hlp.out.1, Hlp.out.2] at hT4
              have hSb := sub_any _ _ _ _ W (g * V) w9 hAc4 (HAp2.out w9 HB9.out) (by
                have h := limbs_length_le Hlw.out.2.2
                rw [HW.out, Hlw.out.2.1] at h
                omega) Hle.out
              clear hC2 hoc2 hb9 hAc3 hAc4
              go_wp2_with fail
              refine hT3.mono ?_
              rintro e w' ⟨rfl, rfl⟩
              clear hT3
              go_wp2_with fail
              refine hT4.mono ?_
              rintro e w' ⟨rfl, rfl⟩
              clear hT4
              go_wp2_with fail
              refine hSb.mono ?_
              rintro e w10 ⟨ra, rc, rfl, ho10, hb10⟩
              clear hSb
              have hR10 := DivRel.later (DivRel.later HR6.out HB9.out) hb10
              have hsz9 : gu < w9.heap.size := by have h1 := HR6.out.below.size; have h2 := HB9.out.size; have h3 := OwnL.lt HR6.out.ownu; omega
              obtain ⟨w11, hcl, ho11, g11⟩ := clear_own (n := n + 1) (c' := capu - j) (j := j) hR10.ownu (by omega) (by have := hR10.lenu; omega)
              have ho10' := OwnL.grown ho10 g11 (fun e => by have := (World.ownsRow.lt ho10 gu e).1; omega)
              have hpl : (patch lu j (List.replicate (n + 1) 0)).length = N1 := by rw [patch_length _ _ _ (by simp; have := hR10.lenu; omega)]; exact hR10.lenu
              obtain ⟨w12, hcy2, ho12, g12⟩ := copy_own (n := n + 1) (c' := capu - j) (m := (limbs (W - g * V)).length) (l := patch lu j (List.replicate (n + 1) 0)) (r := limbs (W - g * V)) (j := j) ho11 (OwnL.arr' ho10' (limbs_limbs _)) rfl (by have := HRl.out; omega) (by rw [hpl]; omega)
              have hfin := DivRel.fin (n := n) (g := g) hR10 (by omega) Hgu1.out (by have := HB4.out.size; omega) hjn hlt HV0.out (by rw [Hlw.out.1, HW.out]; exact HQ.out) hgl (by rw [Hlw.out.1, HW.out]; exact ho12) g11 g12
              have hcq := hfin.1
              have hfq := hfin.2.1
              have HF := Lib.hid hfin.2.2
              clear hfin ho12 g12 ho10' ho11 g11 hR10 ho10 hb10 hpl
              go_wp2_with fail
              simp only [Exit.jump]
              clear hcq hfq hcl hcy2 hmk2 hgl hgo
              go_wp2_with fail
              go_roundw
              case rel => exact ⟨j, _, _, by omega, by go_num, HF⟩
              case measure => (show ((intOf (Value.int IntKind.i64 ((j : Int) - 1)) + 1).toNat < (intOf (Value.int IntKind.i64 (j : Int)) + 1).toNat); simp only [intOf]; omega)
          )
        · have HG : Hid (valL ((lu.drop j).take (n + 1)) / V ≤ 18446744073709551615) := Lib.hid (by
            obtain ⟨_, e1, e2⟩ := div_round lu j n V hR.out.limu (by have := hR.out.lenu; omega) HV0.out.2 hR.out.top
            rw [← e1]
            have : valL (lu.drop j) / V < 18446744073709551616 := by
              rw [Nat.div_lt_iff_lt_mul HV0.out.1]; exact e2
            generalize valL (lu.drop j) / V = z at *
            omega)
          go_wp2_with fail
          go_quiet (fail)
          go_wp2_with fail
          have hgl : (18446744073709551615 : Nat) < 18446744073709551616 := by decide
          have eg : (18446744073709551615 : Int) = ((18446744073709551615 : Nat) : Int) := rfl
          rw [eg]
          generalize (18446744073709551615 : Nat) = g at *
          have HR : Hid (DivRel w2 gu w4.heap.size N1 (N1 - n) capu V (A * 2 ^ k) (j + 1) lu lq (wr.drewN nq)) := Lib.hid (DivRel.later hR.out (below_drewN (Below.refl _ _) _))
          generalize wr.drewN nq = wx at *
          simp only [hjj]
          go_step3
          have hmk2 := run_make1 n (by omega)
          have hM := mul_any w2.heap.size wx.heap.size 0 (n + 1) (n + 1) (n + 1) (some ⟨gv, 0, none⟩) vc g lv (List.replicate (n + 1) 0) (wx.alloc (.cells (zerosA (n + 1)) 31)) ((HOV.out wx HR.out.below).below (by (repeat' (first | exact Below.refl _ _ | assumption | (refine below_alloc ?_ _) | (refine Below.setCell ?_ ?_ _) | (refine Below.drew ?_) | (refine below_drewN ?_ _))) <;> (first | (simp; done) | (simp; omega) | omega))) (by have h := owns_zeros wx w2.heap.size (n + 1) HR.out.below.size (by omega); unfold OwnL; rw [List.length_replicate]; exact h) (fun q off e _ => by cases e; have := HR.out.below.size; have := Hgv2.out; omega) (by rw [HlvV.out.2.2.1]; simp) (by rw [HlvV.out.2.2.1]; omega) (Limbs.replicate _) (by simp; omega) hgl
          rw [HlvV.out.2.2.1, List.length_replicate] at hM
          go_wp2_with fail
          refine hM.mono ?_
          rintro e w5 ⟨os, cy, rfl, hcyl, hos, hlos, he, ho5, hg5⟩
          have hP := mulp_own (n := n) hos HlvV.out.2.2.1 HlvV.out.1 hcyl hlos he ho5 hg5
          have hcp := hP.1
          have hfp := hP.2.1
          have HP := Lib.hid hP.2.2
          clear hM hP he ho5 hg5 hos hlos
          go_wp2_with fail
          obtain ⟨w6, hw6⟩ : ∃ w6, w5.setCell ⟨wx.heap.size, n, none⟩ (.int .u64 (cy : Int)) = w6 := ⟨_, rfl⟩
          rw [hw6] at HP ⊢
          clear hw6 hcp hfp
          obtain ⟨lp, hlp, hvp, hlimp, hop, hbp⟩ := HP.out
          have hwn := DivRel.window HR.out j (n + 1) (by omega) hcapu hcapm
          have hlw : ((lu.drop j).take (n + 1)).length = n + 1 := by have := HR.out.lenu; simp; omega
          obtain ⟨lw, hlwe⟩ : ∃ l, (lu.drop j).take (n + 1) = l := ⟨_, rfl⟩
          rw [hlwe] at hwn hlw HG
          have hAp : Arr w6 (some ⟨wx.heap.size, 0, none⟩) (n + 1) lp := OwnL.arr' hop hlimp
          have hT := trim_any _ _ _ _ hAp
          rw [hlp, hvp] at hT
          have hAp2 := hAp.norm
          rw [hvp] at hAp2
          have hC := clone_pos _ _ _ _ (hwn.below hbp) (by rw [hlw]; omega) (by rw [hlw]; omega)
          rw [hlw] at hC
          have HAp2 : Hid (∀ wr, Below w6.heap.size w6 wr → Arr wr (some ⟨wx.heap.size, 0, none⟩) (n + 1) (limbs (g * V))) := Lib.hid fun wr h => hAp2.below h
          have HAp1 : Hid (∀ wr, Below w6.heap.size w6 wr → Arr wr (some ⟨wx.heap.size, 0, none⟩) (n + 1) lp) := Lib.hid fun wr h => hAp.below h
          have Hlp : Hid (lp.length = n + 1 ∧ valL lp = g * V) := Lib.hid ⟨hlp, hvp⟩
          have HR6 := Lib.hid (DivRel.later HR.out hbp)
          have Hlw : Hid ((lu.drop j).take (n + 1) = lw ∧ lw.length = n + 1 ∧ Limbs lw) := Lib.hid ⟨hlwe, hlw, hwn.2.2.1⟩
          have HWn : Hid (∀ wr, Below w6.heap.size w6 wr → Arr wr (some ⟨gu, j, none⟩) (capu - j) lw) := Lib.hid fun wr h => (hwn.below hbp).below h
          clear HP hlp hvp hlimp hop hbp hwn hlw hlwe hAp hAp2
          refine hT.mono ?_
          rintro e w' ⟨rfl, rfl⟩
          clear hT
          go_wp2_with fail
          refine hC.mono ?_
          rintro e w7 ⟨gc, cc, rfl, hoc, hb7, hgc⟩
          have hAc := OwnL.arr' hoc Hlw.out.2.2
          have hT2 := trim_any _ _ _ _ hAc
          rw [Hlw.out.2.1] at hT2
          have hAc2 := hAc.norm
          obtain ⟨W, hW⟩ : ∃ W, valL lw = W := ⟨_, rfl⟩
          rw [hW] at hT2 hAc2 HG
          have HW := Lib.hid hW
          have HB7 := Lib.hid hb7
          have hcmp2 := cmp_any _ _ _ _ (g * V) W w7 (HAp2.out w7 hb7) hAc2
          obtain ⟨s2, hs2⟩ : ∃ s2, cmpN (g * V) W = s2 := ⟨_, rfl⟩
          rw [hs2] at hcmp2
          have HS2 : Hid (0 < s2 ↔ W < g * V) := Lib.hid (by rw [← hs2]; unfold cmpN; split <;> (try split) <;> omega)
          clear hC hoc hb7 hAc hAc2 hW hs2
          go_wp2_with fail
          refine hT2.mono ?_
          rintro e w' ⟨rfl, rfl⟩
          clear hT2
          go_wp2_with fail
          refine hcmp2.mono ?_
          rintro e w8 ⟨rfl, hb8⟩
          have HB8 := Lib.hid (below_step HB7.out hb8)
          clear hcmp2 hb8
          by_cases hgo : 0 < s2
          · have hlt := HS2.out.1 hgo
            obtain ⟨hg1, hle2⟩ := guess_less W V g HG.out hlt HV0.out.1
            obtain ⟨p, hgp⟩ : ∃ p, g = p + 1 := ⟨g - 1, by omega⟩
            rw [show g - 1 = p by omega] at hle2
            have HL2 : Hid (valL ((lu.drop j).take (n + 1)) / V ≤ p) := Lib.hid (by rw [Hlw.out.1, HW.out]; exact hle2)
            have hgi : (g : Int) - 1 = (p : Int) := by omega
            have hpl : p < 18446744073709551616 := by omega
            have hpg : p < g := by omega
            have HR5 := Lib.hid (DivRel.later HR6.out HB8.out)
            clear hle2 hlt hg1 hgp
            go_wp2_with fail
            go_step3
            exact ⟨rfl, DivJ.mk p _ rfl hpl HL2.out HR5⟩
          · have hQ := guess_fits W V g HG.out (by have := HS2.out; omega) HV0.out.1
            have hle : g * V ≤ W := by have := HS2.out; omega
            have hRl : (limbs (W - g * V)).length ≤ n := length_limbs_le _ _ (by
              have h1 := Nat.div_add_mod W V
              have h2 := Nat.mod_lt W HV0.out.1
              have h3 := HV0.out.2
              rw [← hQ, Nat.mul_comm] at h1
              omega)
            have HRl := Lib.hid hRl
            have Hle := Lib.hid hle
            have HQ := Lib.hid hQ
            have hC2 := clone_pos _ _ _ _ (HWn.out w8 HB8.out) (by rw [Hlw.out.2.1]; omega) (by rw [Hlw.out.2.1]; omega)
            rw [Hlw.out.2.1] at hC2
            clear hQ hle hRl
            go_wp2_with fail
            refine hC2.mono ?_
            rintro e w9 ⟨gc2, cc2, rfl, hoc2, hb9, hgc2⟩
            have hAc3 := OwnL.arr' hoc2 Hlw.out.2.2
            have hT3 := trim_any _ _ _ _ hAc3
            rw [Hlw.out.2.1, HW.out] at hT3
            have hAc4 := hAc3.norm
            rw [HW.out] at hAc4
            have HB9 := Lib.hid (below_step HB8.out hb9)
            have hT4 := trim_any _ _ _ _ (HAp1.out w9 HB9.out)
            rw [Hlp.out.1, Hlp.out.2] at hT4
            have hSb := sub_any _ _ _ _ W (g * V) w9 hAc4 (HAp2.out w9 HB9.out) (by
              have h := limbs_length_le Hlw.out.2.2
              rw [HW.out, Hlw.out.2.1] at h
              omega) Hle.out
            clear hC2 hoc2 hb9 hAc3 hAc4
            go_wp2_with fail
            refine hT3.mono ?_
            rintro e w' ⟨rfl, rfl⟩
            clear hT3
            go_wp2_with fail
            refine hT4.mono ?_
            rintro e w' ⟨rfl, rfl⟩
            clear hT4
            go_wp2_with fail
            refine hSb.mono ?_
            rintro e w10 ⟨ra, rc, rfl, ho10, hb10⟩
            clear hSb
            have hR10 := DivRel.later (DivRel.later HR6.out HB9.out) hb10
            have hsz9 : gu < w9.heap.size := by have h1 := HR6.out.below.size; have h2 := HB9.out.size; have h3 := OwnL.lt HR6.out.ownu; omega
            obtain ⟨w11, hcl, ho11, g11⟩ := clear_own (n := n + 1) (c' := capu - j) (j := j) hR10.ownu (by omega) (by have := hR10.lenu; omega)
            have ho10' := OwnL.grown ho10 g11 (fun e => by have := (World.ownsRow.lt ho10 gu e).1; omega)
            have hpl : (patch lu j (List.replicate (n + 1) 0)).length = N1 := by rw [patch_length _ _ _ (by simp; have := hR10.lenu; omega)]; exact hR10.lenu
            obtain ⟨w12, hcy2, ho12, g12⟩ := copy_own (n := n + 1) (c' := capu - j) (m := (limbs (W - g * V)).length) (l := patch lu j (List.replicate (n + 1) 0)) (r := limbs (W - g * V)) (j := j) ho11 (OwnL.arr' ho10' (limbs_limbs _)) rfl (by have := HRl.out; omega) (by rw [hpl]; omega)
            have hfin := DivRel.fin (n := n) (g := g) hR10 (by omega) Hgu1.out (by have := HB4.out.size; omega) hjn hlt HV0.out (by rw [Hlw.out.1, HW.out]; exact HQ.out) hgl (by rw [Hlw.out.1, HW.out]; exact ho12) g11 g12
            have hcq := hfin.1
            have hfq := hfin.2.1
            have HF := Lib.hid hfin.2.2
            clear hfin ho12 g12 ho10' ho11 g11 hR10 ho10 hb10 hpl
            go_wp2_with fail
            simp only [Exit.jump]
            clear hcq hfq hcl hcy2 hmk2 hgl hgo
            go_wp2_with fail
            go_roundw
            case rel => exact ⟨j, _, _, by omega, by go_num, HF⟩
            case measure => (show ((intOf (Value.int IntKind.i64 ((j : Int) - 1)) + 1).toNat < (intOf (Value.int IntKind.i64 (j : Int)) + 1).toNat); simp only [intOf]; omega)
      case pass =>
        rintro a' wx ⟨g, f, rfl, hgl, HG, HR⟩
        have hmk2 := run_make1 n (by omega)
        have hM := mul_any w2.heap.size wx.heap.size 0 (n + 1) (n + 1) (n + 1) (some ⟨gv, 0, none⟩) vc g lv (List.replicate (n + 1) 0) (wx.alloc (.cells (zerosA (n + 1)) 31)) ((HOV.out wx HR.out.below).below (by (repeat' (first | exact Below.refl _ _ | assumption | (refine below_alloc ?_ _) | (refine Below.setCell ?_ ?_ _) | (refine Below.drew ?_) | (refine below_drewN ?_ _))) <;> (first | (simp; done) | (simp; omega) | omega))) (by have h := owns_zeros wx w2.heap.size (n + 1) HR.out.below.size (by omega); unfold OwnL; rw [List.length_replicate]; exact h) (fun q off e _ => by cases e; have := HR.out.below.size; have := Hgv2.out; omega) (by rw [HlvV.out.2.2.1]; simp) (by rw [HlvV.out.2.2.1]; omega) (Limbs.replicate _) (by simp; omega) hgl
        rw [HlvV.out.2.2.1, List.length_replicate] at hM
        go_wp2_with fail
        refine hM.mono ?_
        rintro e w5 ⟨os, cy, rfl, hcyl, hos, hlos, he, ho5, hg5⟩
        have hP := mulp_own (n := n) hos HlvV.out.2.2.1 HlvV.out.1 hcyl hlos he ho5 hg5
        have hcp := hP.1
        have hfp := hP.2.1
        have HP := Lib.hid hP.2.2
        clear hM hP he ho5 hg5 hos hlos
        go_wp2_with fail
        obtain ⟨w6, hw6⟩ : ∃ w6, w5.setCell ⟨wx.heap.size, n, none⟩ (.int .u64 (cy : Int)) = w6 := ⟨_, rfl⟩
        rw [hw6] at HP ⊢
        clear hw6 hcp hfp
        obtain ⟨lp, hlp, hvp, hlimp, hop, hbp⟩ := HP.out
        have hwn := DivRel.window HR.out j (n + 1) (by omega) hcapu hcapm
        have hlw : ((lu.drop j).take (n + 1)).length = n + 1 := by have := HR.out.lenu; simp; omega
        obtain ⟨lw, hlwe⟩ : ∃ l, (lu.drop j).take (n + 1) = l := ⟨_, rfl⟩
        rw [hlwe] at hwn hlw HG
        have hAp : Arr w6 (some ⟨wx.heap.size, 0, none⟩) (n + 1) lp := OwnL.arr' hop hlimp
        have hT := trim_any _ _ _ _ hAp
        rw [hlp, hvp] at hT
        have hAp2 := hAp.norm
        rw [hvp] at hAp2
        have hC := clone_pos _ _ _ _ (hwn.below hbp) (by rw [hlw]; omega) (by rw [hlw]; omega)
        rw [hlw] at hC
        have HAp2 : Hid (∀ wr, Below w6.heap.size w6 wr → Arr wr (some ⟨wx.heap.size, 0, none⟩) (n + 1) (limbs (g * V))) := Lib.hid fun wr h => hAp2.below h
        have HAp1 : Hid (∀ wr, Below w6.heap.size w6 wr → Arr wr (some ⟨wx.heap.size, 0, none⟩) (n + 1) lp) := Lib.hid fun wr h => hAp.below h
        have Hlp : Hid (lp.length = n + 1 ∧ valL lp = g * V) := Lib.hid ⟨hlp, hvp⟩
        have HR6 := Lib.hid (DivRel.later HR.out hbp)
        have Hlw : Hid ((lu.drop j).take (n + 1) = lw ∧ lw.length = n + 1 ∧ Limbs lw) := Lib.hid ⟨hlwe, hlw, hwn.2.2.1⟩
        have HWn : Hid (∀ wr, Below w6.heap.size w6 wr → Arr wr (some ⟨gu, j, none⟩) (capu - j) lw) := Lib.hid fun wr h => (hwn.below hbp).below h
        clear HP hlp hvp hlimp hop hbp hwn hlw hlwe hAp hAp2
        refine hT.mono ?_
        rintro e w' ⟨rfl, rfl⟩
        clear hT
        go_wp2_with fail
        refine hC.mono ?_
        rintro e w7 ⟨gc, cc, rfl, hoc, hb7, hgc⟩
        have hAc := OwnL.arr' hoc Hlw.out.2.2
        have hT2 := trim_any _ _ _ _ hAc
        rw [Hlw.out.2.1] at hT2
        have hAc2 := hAc.norm
        obtain ⟨W, hW⟩ : ∃ W, valL lw = W := ⟨_, rfl⟩
        rw [hW] at hT2 hAc2 HG
        have HW := Lib.hid hW
        have HB7 := Lib.hid hb7
        have hcmp2 := cmp_any _ _ _ _ (g * V) W w7 (HAp2.out w7 hb7) hAc2
        obtain ⟨s2, hs2⟩ : ∃ s2, cmpN (g * V) W = s2 := ⟨_, rfl⟩
        rw [hs2] at hcmp2
        have HS2 : Hid (0 < s2 ↔ W < g * V) := Lib.hid (by rw [← hs2]; unfold cmpN; split <;> (try split) <;> omega)
        clear hC hoc hb7 hAc hAc2 hW hs2
        go_wp2_with fail
        refine hT2.mono ?_
        rintro e w' ⟨rfl, rfl⟩
        clear hT2
        go_wp2_with fail
        refine hcmp2.mono ?_
        rintro e w8 ⟨rfl, hb8⟩
        have HB8 := Lib.hid (below_step HB7.out hb8)
        clear hcmp2 hb8
        by_cases hgo : 0 < s2
        · have hlt := HS2.out.1 hgo
          obtain ⟨hg1, hle2⟩ := guess_less W V g HG.out hlt HV0.out.1
          obtain ⟨p, hgp⟩ : ∃ p, g = p + 1 := ⟨g - 1, by omega⟩
          rw [show g - 1 = p by omega] at hle2
          have HL2 : Hid (valL ((lu.drop j).take (n + 1)) / V ≤ p) := Lib.hid (by rw [Hlw.out.1, HW.out]; exact hle2)
          have hgi : (g : Int) - 1 = (p : Int) := by omega
          have hpl : p < 18446744073709551616 := by omega
          have hpg : p < g := by omega
          have HR5 := Lib.hid (DivRel.later HR6.out HB8.out)
          clear hle2 hlt hg1 hgp
          go_wp2_with fail
          go_step3
          exact ⟨rfl, DivJ.mk p _ rfl hpl HL2.out HR5, by simp [intOf]; omega⟩
        · have hQ := guess_fits W V g HG.out (by have := HS2.out; omega) HV0.out.1
          have hle : g * V ≤ W := by have := HS2.out; omega
          have hRl : (limbs (W - g * V)).length ≤ n := length_limbs_le _ _ (by
            have h1 := Nat.div_add_mod W V
            have h2 := Nat.mod_lt W HV0.out.1
            have h3 := HV0.out.2
            rw [← hQ, Nat.mul_comm] at h1
            omega)
          have HRl := Lib.hid hRl
          have Hle := Lib.hid hle
          have HQ := Lib.hid hQ
          have hC2 := clone_pos _ _ _ _ (HWn.out w8 HB8.out) (by rw [Hlw.out.2.1]; omega) (by rw [Hlw.out.2.1]; omega)
          rw [Hlw.out.2.1] at hC2
          clear hQ hle hRl
          go_wp2_with fail
          refine hC2.mono ?_
          rintro e w9 ⟨gc2, cc2, rfl, hoc2, hb9, hgc2⟩
          have hAc3 := OwnL.arr' hoc2 Hlw.out.2.2
          have hT3 := trim_any _ _ _ _ hAc3
          rw [Hlw.out.2.1, HW.out] at hT3
          have hAc4 := hAc3.norm
          rw [HW.out] at hAc4
          have HB9 := Lib.hid (below_step HB8.out hb9)
          have hT4 := trim_any _ _ _ _ (HAp1.out w9 HB9.out)
          rw [Hlp.out.1, Hlp.out.2] at hT4
          have hSb := sub_any _ _ _ _ W (g * V) w9 hAc4 (HAp2.out w9 HB9.out) (by
            have h := limbs_length_le Hlw.out.2.2
            rw [HW.out, Hlw.out.2.1] at h
            omega) Hle.out
          clear hC2 hoc2 hb9 hAc3 hAc4
          go_wp2_with fail
          refine hT3.mono ?_
          rintro e w' ⟨rfl, rfl⟩
          clear hT3
          go_wp2_with fail
          refine hT4.mono ?_
          rintro e w' ⟨rfl, rfl⟩
          clear hT4
          go_wp2_with fail
          refine hSb.mono ?_
          rintro e w10 ⟨ra, rc, rfl, ho10, hb10⟩
          clear hSb
          have hR10 := DivRel.later (DivRel.later HR6.out HB9.out) hb10
          have hsz9 : gu < w9.heap.size := by have h1 := HR6.out.below.size; have h2 := HB9.out.size; have h3 := OwnL.lt HR6.out.ownu; omega
          obtain ⟨w11, hcl, ho11, g11⟩ := clear_own (n := n + 1) (c' := capu - j) (j := j) hR10.ownu (by omega) (by have := hR10.lenu; omega)
          have ho10' := OwnL.grown ho10 g11 (fun e => by have := (World.ownsRow.lt ho10 gu e).1; omega)
          have hpl : (patch lu j (List.replicate (n + 1) 0)).length = N1 := by rw [patch_length _ _ _ (by simp; have := hR10.lenu; omega)]; exact hR10.lenu
          obtain ⟨w12, hcy2, ho12, g12⟩ := copy_own (n := n + 1) (c' := capu - j) (m := (limbs (W - g * V)).length) (l := patch lu j (List.replicate (n + 1) 0)) (r := limbs (W - g * V)) (j := j) ho11 (OwnL.arr' ho10' (limbs_limbs _)) rfl (by have := HRl.out; omega) (by rw [hpl]; omega)
          have hfin := DivRel.fin (n := n) (g := g) hR10 (by omega) Hgu1.out (by have := HB4.out.size; omega) hjn hlt HV0.out (by rw [Hlw.out.1, HW.out]; exact HQ.out) hgl (by rw [Hlw.out.1, HW.out]; exact ho12) g11 g12
          have hcq := hfin.1
          have hfq := hfin.2.1
          have HF := Lib.hid hfin.2.2
          clear hfin ho12 g12 ho10' ho11 g11 hR10 ho10 hb10 hpl
          go_wp2_with fail
          simp only [Exit.jump]
          clear hcq hfq hcl hcy2 hmk2 hgl hgo
          go_wp2_with fail
          go_roundw
          case rel => exact ⟨j, _, _, by omega, by go_num, HF⟩
          case measure => (show ((intOf (Value.int IntKind.i64 ((j : Int) - 1)) + 1).toNat < (intOf (Value.int IntKind.i64 (j : Int)) + 1).toNat); simp only [intOf]; omega)

/-- nat.div of two normal numbers, the second not nought. -/
theorem div_any (a b : Option Addr) (c d A B : Nat) (w : World) (hA : Arr w a c (limbs A)) (hB : Arr w b d (limbs B)) (hlA : (limbs A).length ≤ 5000) (hlB : (limbs B).length ≤ 5000) (hB0 : B ≠ 0) :
    Calls Tryz.prog 138 #[.slice a (limbs A).length c, .slice b (limbs B).length d] w fun e w' => ∃ a' c' b' d', e = .returned (.tuple #[.slice a' (limbs (A / B)).length c', .slice b' (limbs (A % B)).length d']) ∧ Arr w' a' c' (limbs (A / B)) ∧ Arr w' b' d' (limbs (A % B)) ∧ Below w.heap.size w w' := by
  by_cases h : A < B
  · refine (div_less a b c d A B w hA hB (by omega) h).mono ?_
    rintro e w' ⟨a', c', rfl, harr, hb⟩
    rw [Nat.div_eq_of_lt h, Nat.mod_eq_of_lt h, limbs_zero]
    exact ⟨none, 0, a', c', rfl, Arr.nil _ _ _ (Nat.zero_le _), harr, hb⟩
  · have htl : (limbs B).getD ((limbs B).length - 1) 0 < 18446744073709551616 := (limbs_limbs B).get _
    have := lenN_le _ 64 htl
    exact div_core a b c d A B (64 - lenN ((limbs B).getD ((limbs B).length - 1) 0)) w hA hB hlA hlB (by omega) hB0 (by omega)
end Go.Proofs.YtjlaadadbpffdaaGreatDoor
