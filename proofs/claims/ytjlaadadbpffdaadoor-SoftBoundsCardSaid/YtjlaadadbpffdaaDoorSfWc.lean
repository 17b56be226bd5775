/-
  Layer 4's laws, walked: SoftBounds (printed by softbounds.py).
-/
import Derived.Test.YtjlaadadbpffdaaDoorSfX
set_option linter.unusedSimpArgs false
set_option linter.unusedVariables false
namespace Go.Proofs.YtjlaadadbpffdaaDoor
open Go.RowKit Go.Plumb
theorem kn_sub (x y c : Nat) (hx : x < 18446744073709551616) (hy : y < 18446744073709551616) (h : Ieee.double.sub x y = some c ∨ (Ieee.double.sub x y = none ∧ classI (c : Int) = 5)) :
    ∃ v, (∀ w, Tab w → Calls Tryd.prog 16 #[.float .f64 x, .float .f64 y] w fun r w' => r = .returned (.float .f64 v) ∧ Below w.heap.size w w') ∧ v < 18446744073709551616 ∧ oneI (v : Int) = oneI (c : Int) :=
  ⟨_, fun w hT => sSub_any x y hT hx hy, addW_lt hx (sgn_lt y true hy), kn_one (sub_one_mach hx hy) h⟩
theorem kn_root (x : Nat) (hx : x < 18446744073709551616) :
    ∃ v, (∀ w, Tab w → Calls Tryd.prog 17 #[.float .f64 x] w fun r w' => r = .returned (.float .f64 v) ∧ Below w.heap.size w w') ∧ v < 18446744073709551616 ∧ (∀ w, Calls Tryd.prog 18 #[.float .f64 x] w fun z w' => ∃ r : Nat, z = .returned (.float .f64 r) ∧ (r < 18446744073709551616 ∧ oneI (r : Int) = oneI (v : Int)) ∧ Below w.heap.size w w') :=
  ⟨_, fun w hT => sSqrt_any x hT hx, sqrtW_lt hx, fun w => msqrt_any (mach_sqrt hx) (sqrtW_lt hx) w⟩
theorem own_big {w : World} {B : Nat} {a : Option Addr} {n c : Nat} {l : List Nat} (h : OwnL w B (.slice a n c) l) (hl : Limbs l) : Num w a n c l := ⟨h.len, OwnL.arr' h hl⟩
/-- The block of the great number, before and behind the two stores. -/
theorem big_made (w : World) : ∃ (W1 : World) (L : List Nat), Sem.run Tryd.prog (Instr.makeSlice 32 (.int .i64 2049) (.int .i64 2049)) w = .ok (.slice (some ⟨w.heap.size, 0, none⟩) 2049 2049) W1 ∧
    W1.cell? ⟨w.heap.size, 2048, none⟩ = some (.int .u64 0) ∧ W1.frozen? ⟨w.heap.size, 2048, none⟩ = false ∧
    (W1.setCell ⟨w.heap.size, 2048, none⟩ (.int .u64 1)).cell? ⟨w.heap.size, 0, none⟩ = some (.int .u64 0) ∧ (W1.setCell ⟨w.heap.size, 2048, none⟩ (.int .u64 1)).frozen? ⟨w.heap.size, 0, none⟩ = false ∧
    Num ((W1.setCell ⟨w.heap.size, 2048, none⟩ (.int .u64 1)).setCell ⟨w.heap.size, 0, none⟩ (.int .u64 1)) (some ⟨w.heap.size, 0, none⟩) 2049 2049 L ∧
    Below w.heap.size w ((W1.setCell ⟨w.heap.size, 2048, none⟩ (.int .u64 1)).setCell ⟨w.heap.size, 0, none⟩ (.int .u64 1)) ∧
    L.length = 2049 ∧ valL L % 2 = 1 ∧ 2048 < (limbs (valL L)).length := by
  obtain ⟨q, hq⟩ : ∃ q, q = 2048 := ⟨_, rfl⟩
  have hmk := run_make1 q (by omega) w
  have hO : OwnL (w.alloc (.cells (zerosA (q + 1)) 22)) w.heap.size (.slice (some ⟨w.heap.size, 0, none⟩) (q + 1) (q + 1)) (List.replicate (q + 1) 0) := by unfold OwnL; rw [List.length_replicate]; exact owns_zeros w w.heap.size (q + 1) (Nat.le_refl _) (by omega)
  have hB : Below w.heap.size w (w.alloc (.cells (zerosA (q + 1)) 22)) := below_alloc (Below.refl _ _) _
  generalize w.alloc (.cells (zerosA (q + 1)) 22) = W1 at hmk hO hB
  have h1 := OwnL.store hO q 1 1 rfl
  have h2 := OwnL.store h1 0 1 1 rfl
  have hlim : Limbs (((List.replicate (q + 1) 0).set q 1).set 0 1) := ((Limbs.replicate _).set _ _ (by decide)).set _ _ (by decide)
  have hb := big_num q (by omega)
  rw [← big_val q (by omega)] at hb
  have c1 := OwnL.cell hO q 0 (by simp)
  have c2 := OwnL.cell h1 0 0 (by rw [List.getElem?_set_ne (by omega)]; simp)
  have t1 := OwnL.thaw hO q
  have t2 := OwnL.thaw h1 0
  have hN := own_big h2 hlim
  have hlen : (((List.replicate (q + 1) 0).set q 1).set 0 1).length = q + 1 := by simp
  generalize ((List.replicate (q + 1) 0).set q 1).set 0 1 = L at hb hN hlen
  subst hq
  exact ⟨W1, L, hmk, c1, t1, c2, t2, hN, (hB.setCell (Nat.le_refl _) _).setCell (Nat.le_refl _) _, hlen, hb.1, hb.2⟩
set_option maxHeartbeats 4000000 in
set_option maxRecDepth 20000 in
theorem w_SoftBounds (w : World) (hT : Tab w) : Calls Tryd.prog 8 #[] w fun e w' => e = .returned (.bool true) ∧ Below w.heap.size w w' := by
  obtain ⟨W1, L, hmk, c1, t1, c2, t2, hN, hB, hlen, hodd, hbig⟩ := big_made w
  obtain ⟨v1, K1, T1, E1⟩ := kn_div 1 4611686018427387904 0 (by decide) (by decide) (.inl (by decide +kernel))
  have S1 := fun w => same4_any v1 0 E1 T1 (by decide) w
  clear E1 T1
  obtain ⟨v2, K2, T2, E2⟩ := kn_div 9223372036854775809 4611686018427387904 9223372036854775808 (by decide) (by decide) (.inl (by decide +kernel))
  have S2 := fun w => same4_any v2 9223372036854775808 E2 T2 (by decide) w
  clear E2 T2
  obtain ⟨v3, K3, T3, E3⟩ := kn_div 3 4611686018427387904 2 (by decide) (by decide) (.inl (by decide +kernel))
  have S3 := fun w => same4_any v3 2 E3 T3 (by decide) w
  clear E3 T3
  obtain ⟨v4, K4, T4, E4⟩ := kn_mul 9218868437227405311 4611686018427387904 9218868437227405312 (by decide) (by decide) (.inl (by decide +kernel))
  have S4 := fun w => same4_any v4 9218868437227405312 E4 T4 (by decide) w
  clear E4 T4
  obtain ⟨v5, K5, T5, E5⟩ := kn_sub 9218868437227405311 18442240474082181119 9218868437227405312 (by decide) (by decide) (.inl (by decide +kernel))
  have S5 := fun w => same4_any v5 9218868437227405312 E5 T5 (by decide) w
  clear E5 T5
  obtain ⟨r1, K11, T11, M11⟩ := kn_root 1 (by decide)
  obtain ⟨r2, K12, T12, M12⟩ := kn_root 9218868437227405311 (by decide)
  have U11 := Lib.hid T11
  have U12 := Lib.hid T12
  have Z1 := fun w => same4_any 9214364837600034816 9214364837600034816 rfl (by decide) (by decide) w
  have Z2 := fun w => same4_any 0 0 rfl (by decide) (by decide) w
  have Z3 := fun w => same4_any 18442240474082181120 18442240474082181120 rfl (by decide) (by decide) w
  have b1 := fl_neg (a := 1) (b := 9223372036854775809) (by decide +kernel)
  have b2 := fl_mul (a := 1) (b := 4613937818241073152) (c := 3) (by decide +kernel)
  have b3 := fl_mul (a := 1) (b := 4611686018427387904) (c := 2) (by decide +kernel)
  have b4 := fl_neg (a := 9218868437227405311) (b := 18442240474082181119) (by decide +kernel)
  have o1 : opnD ⟨false, valL L, 0⟩ = ⟨false, valL L, 0⟩ := opn_odd hodd
  have hne : valL L ≠ 0 := by omega
  obtain ⟨W2, hW2⟩ : ∃ W2, (W1.setCell ⟨w.heap.size, 2048, none⟩ (.int .u64 1)).setCell ⟨w.heap.size, 0, none⟩ (.int .u64 1) = W2 := ⟨_, rfl⟩
  have hsz : W1.heap.size = W2.heap.size := by rw [← hW2]; simp
  rw [hW2] at hN hB
  have HW := Lib.hid hW2
  have HB0 := hB
  have Q1 := sQuot_long (w := W2.alloc (.cells #[.int .u64 1] 22)) false false 0 0 (hT.below (below_alloc hB _)) (hN.below (below_alloc (Below.refl _ _) _)) (num_one (W := W2) (g := W1.heap.size) (x := 1) (t := 22) hsz (by decide)) (by omega) (by decide) (by decide) (by decide) (by decide) (by rw [o1]; exact hbig)
  have Q2 := fun wx (hb : Below W2.heap.size W2 wx) => sRoot_long (w := wx) false 0 (hT.below (below_step hB hb)) (hN.below hb) (by omega) (by decide) rfl hne (by rw [o1]; exact hbig)
  have Q3 := fun W (hb : Below w.heap.size w W) => sRoot_any (w := W.alloc (.cells #[.int .u64 1] 22)) false 2046 (hT.below (below_alloc hb _)) (num_one (W := W) (g := W.heap.size) (x := 1) (t := 22) rfl (by decide)) (by decide) 9214364837600034816 0 root_2046
  have Q4 := fun W (hb : Below w.heap.size w W) => sQuot_any (w := (W.alloc (.cells #[.int .u64 1] 22)).alloc (.cells #[.int .u64 1] 22)) false false (-262144) 262144 (hT.below (below_alloc (below_alloc hb _) _)) ((num_one (W := W) (g := W.heap.size) (x := 1) (t := 22) rfl (by decide)).below (below_alloc (Below.refl _ _) _)) (num_one (W := W.alloc (.cells #[.int .u64 1] 22)) (g := W.heap.size + 1) (x := 1) (t := 22) (by simp) (by decide)) (by decide) (by decide) 0 0 quo_low
  have Q5 := fun W (hb : Below w.heap.size w W) => sQuot_any (w := (W.alloc (.cells #[.int .u64 1] 22)).alloc (.cells #[.int .u64 1] 22)) true false 262144 (-262144) (hT.below (below_alloc (below_alloc hb _) _)) ((num_one (W := W) (g := W.heap.size) (x := 1) (t := 22) rfl (by decide)).below (below_alloc (Below.refl _ _) _)) (num_one (W := W.alloc (.cells #[.int .u64 1] 22)) (g := W.heap.size + 1) (x := 1) (t := 22) (by simp) (by decide)) (by decide) (by decide) 18442240474082181120 0 quo_high
  have Q6 := fun W (hb : Below w.heap.size w W) => sRoot_any (w := W.alloc (.cells #[.int .u64 1] 22)) true 0 (hT.below (below_alloc hb _)) (num_one (W := W) (g := W.heap.size) (x := 1) (t := 22) rfl (by decide)) (by decide) 0 2 root_neg1
  clear hW2 hsz hN hB hlen hodd hbig o1 hne T11 T12
  go_enter Tryd.func8, Tryd.ntmps8
  go_wp2_with fail
  refine (ldexpL_any _).mono ?_
  rintro z w' ⟨rfl, rfl⟩
  go_wp2_with fail
  rw [HW.out]
  refine Q1.mono ?_
  rintro z w1 ⟨rfl, hb⟩
  have hb9 := below_step (below_alloc (Below.refl W2.heap.size W2) (.cells #[.int .u64 1] 22)) hb
  have HB1 := below_step HB0 hb9
  have Q2' := Q2 _ hb9
  clear hb hb9 Q1 Q2 hmk c1 t1 c2 t2 HW
  go_wp2_with fail
  refine Q2'.mono ?_
  rintro z w2 ⟨rfl, hb⟩
  have HB2 := below_step HB1 hb
  clear hb HB1 Q2'
  go_wp2_with fail
  refine (Q3 _ HB2).mono ?_
  rintro z w3 ⟨rfl, hb⟩
  have HB3 := below_step (below_alloc HB2 _) hb
  clear hb HB2
  go_wp2_with fail
  refine (Q4 _ HB3).mono ?_
  rintro z w4 ⟨rfl, hb⟩
  have HB4 := below_step (below_alloc (below_alloc HB3 _) _) hb
  clear hb HB3
  go_wp2_with fail
  refine (Q5 _ HB4).mono ?_
  rintro z w5 ⟨rfl, hb⟩
  have HB5 := below_step (below_alloc (below_alloc HB4 _) _) hb
  clear hb HB4
  go_wp2_with fail
  refine (Q6 _ HB5).mono ?_
  rintro z w6 ⟨rfl, hb⟩
  have HB6 := below_step (below_alloc HB5 _) hb
  clear hb HB5
  go_wp2_with fail
  refine (K1 _ (hT.below HB6)).mono ?_
  rintro z w7 ⟨rfl, hb⟩
  have HB7 := below_step HB6 hb
  clear hb HB6 K1
  go_wp2_with fail
  refine (S1 _).mono ?_
  rintro z w' ⟨rfl, rfl⟩
  go_wp2_with fail
  refine (K2 _ (hT.below HB7)).mono ?_
  rintro z w8 ⟨rfl, hb⟩
  have HB8 := below_step HB7 hb
  clear hb HB7 K2
  go_wp2_with fail
  refine (copysign0_any _).mono ?_
  rintro z w' ⟨rfl, rfl⟩
  go_wp2_with fail
  refine (S2 _).mono ?_
  rintro z w' ⟨rfl, rfl⟩
  go_wp2_with fail
  refine (K3 _ (hT.below HB8)).mono ?_
  rintro z w9 ⟨rfl, hb⟩
  have HB9 := below_step HB8 hb
  clear hb HB8 K3
  go_wp2_with fail
  refine (S3 _).mono ?_
  rintro z w' ⟨rfl, rfl⟩
  go_wp2_with fail
  refine (K4 _ (hT.below HB9)).mono ?_
  rintro z w10 ⟨rfl, hb⟩
  have HB10 := below_step HB9 hb
  clear hb HB9 K4
  go_wp2_with fail
  refine (inf_any _).mono ?_
  rintro z w' ⟨rfl, rfl⟩
  go_wp2_with fail
  refine (S4 _).mono ?_
  rintro z w' ⟨rfl, rfl⟩
  go_wp2_with fail
  refine (K11 _ (hT.below HB10)).mono ?_
  rintro z w11 ⟨rfl, hb⟩
  have HB11 := below_step HB10 hb
  clear hb HB10 K11
  go_wp2_with fail
  refine (M11 _).mono ?_
  rintro z w12 ⟨v, rfl, ⟨v1, v2⟩, hb⟩
  have HB12 := below_step HB11 hb
  have SR := fun w => same4_any r1 v v2.symm U11.out v1 w
  clear hb HB11 M11 v1 v2
  go_wp2_with fail
  refine (SR _).mono ?_
  rintro z w' ⟨rfl, rfl⟩
  clear SR
  go_wp2_with fail
  refine (K12 _ (hT.below HB12)).mono ?_
  rintro z w13 ⟨rfl, hb⟩
  have HB13 := below_step HB12 hb
  clear hb HB12 K12
  go_wp2_with fail
  refine (M12 _).mono ?_
  rintro z w14 ⟨v, rfl, ⟨v1, v2⟩, hb⟩
  have HB14 := below_step HB13 hb
  have SR := fun w => same4_any r2 v v2.symm U12.out v1 w
  clear hb HB13 M12 v1 v2
  go_wp2_with fail
  refine (SR _).mono ?_
  rintro z w' ⟨rfl, rfl⟩
  clear SR
  go_wp2_with fail
  refine (K5 _ (hT.below HB14)).mono ?_
  rintro z w15 ⟨rfl, hb⟩
  have HB15 := below_step HB14 hb
  clear hb HB14 K5
  go_wp2_with fail
  refine (inf_any _).mono ?_
  rintro z w' ⟨rfl, rfl⟩
  go_wp2_with fail
  refine (S5 _).mono ?_
  rintro z w' ⟨rfl, rfl⟩
  go_wp2_with fail
  refine (num4_any 3 _).mono ?_
  rintro z w' ⟨rfl, rfl⟩
  go_wp2_with fail
  refine (num4_any 3 _).mono ?_
  rintro z w' ⟨rfl, rfl⟩
  go_wp2_with fail
  refine (ldexpH_any _).mono ?_
  rintro z w' ⟨rfl, rfl⟩
  go_wp2_with fail
  refine (Z1 _).mono ?_
  rintro z w' ⟨rfl, rfl⟩
  go_wp2_with fail
  refine (Z2 _).mono ?_
  rintro z w' ⟨rfl, rfl⟩
  go_wp2_with fail
  refine (inf_neg _).mono ?_
  rintro z w' ⟨rfl, rfl⟩
  go_wp2_with fail
  refine (Z3 _).mono ?_
  rintro z w' ⟨rfl, rfl⟩
  go_wp2_with fail
  refine (num4_any 0 _).mono ?_
  rintro z w' ⟨rfl, rfl⟩
  go_wp2_with fail
  refine (num4_any 0 _).mono ?_
  rintro z w' ⟨rfl, rfl⟩
  go_wp2_with fail
  refine (num4_any 0 _).mono ?_
  rintro z w' ⟨rfl, rfl⟩
  go_wp2_with fail
  refine (num4_any 2 _).mono ?_
  rintro z w' ⟨rfl, rfl⟩
  go_wp2_with fail
  refine (known4_any _ (hT.below HB15)).mono ?_
  rintro z w16 ⟨rfl, hb⟩
  go_wp2_with fail
  go_ret
  exact ⟨rfl, below_step HB15 hb⟩
end Go.Proofs.YtjlaadadbpffdaaDoor
