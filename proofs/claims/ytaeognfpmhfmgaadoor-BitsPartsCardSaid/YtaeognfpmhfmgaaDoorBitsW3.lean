/-
  The walk of the law BitsParts: for every world that holds the table and every word, the call answers true and leaves what the caller sees as it was.
-/
import Derived.Test.YtaeognfpmhfmgaaDoorBitsW1
import Derived.Deep.RegionHeld3
set_option linter.unusedSimpArgs false
set_option linter.unusedVariables false
namespace Go.Proofs.YtaeognfpmhfmgaaDoor
open Go.ChangeShapes Go.WideShapes Go.ChangeAt Go.RowKit Go.Plumb

set_option maxHeartbeats 4000000 in
theorem w_BitsParts (W : World) (hT : Tab W) (x : Int) (h0 : 0 ≤ x) (h1 : x < 18446744073709551616) : Holds Tryd.prog 4 #[.int .u64 x] W := by
  unfold Holds
  have heq := run_eql_parts
  by_cases hc3 : classI x ≤ 3
  · have hcb : decide (classI x ≤ 3) = true := by simpa using hc3
    have hm := pMan_lt x
    have hpe := (pErr_class x).2 hc3
    have hR := parts_round x h0 h1 hc3
    have hE := parts_exact x h0 h1 hc3
    have p0 := pMan_ge x
    have p1 : pMan x < 18446744073709551616 := by omega
    clear hm
    obtain ⟨pn, hpn⟩ : ∃ pn, pNeg x = pn := ⟨_, rfl⟩
    obtain ⟨pm, hpm⟩ : ∃ pm, pMan x = pm := ⟨_, rfl⟩
    obtain ⟨pe, hpe'⟩ : ∃ pe, pExp x = pe := ⟨_, rfl⟩
    rw [hpn, hpm, hpe'] at hR hE
    rw [hpm] at p0 p1
    have hxx := beq_rfl' x
    have hmm := beq_rfl' pm
    have hee := beq_rfl' pe
    have hnn : (pn == pn) = true := by simp
    go_enter Tryd.func4, Tryd.ntmps4
    go_wp2_with fail
    refine (parts_any _ _ (by assumption) (by assumption)).mono ?_
    rintro e w1 ⟨rfl, hb⟩
    have hB1 := below_step (w0 := W) (by (repeat' (first | exact Below.refl _ _ | assumption | (refine below_alloc ?_ _) | (refine Below.setCell ?_ ?_ _) | (refine Below.drew ?_) | (refine below_drewN ?_ _))) <;> (first | (simp; done) | (simp; omega) | omega)) hb
    have hAn := HoldsA.new w1 (.bool (pNeg x)) (.int .u64 (pMan x)) (.int .i64 (pExp x)) 32
    rw [hpn, hpm, hpe'] at hAn
    clear hb
    go_wp2_with (first | (go_at_call 21; (with_reducible refine (rfinite_any _ _ (by assumption) (by assumption)).mono ?_); rintro e w' ⟨rfl, rfl⟩) | (go_at_call 23; (with_reducible refine (exact_any _ _ _ _ (by assumption) (by assumption) (hT.below (by (repeat' (first | exact Below.refl _ _ | assumption | (refine below_alloc ?_ _) | (refine Below.setCell ?_ ?_ _) | (refine Below.drew ?_) | (refine below_drewN ?_ _))) <;> (first | (simp; done) | (simp; omega) | omega)))).mono ?_); rintro e w' ⟨rfl, hb⟩; have hB := below_step (w0 := W) (by (repeat' (first | exact Below.refl _ _ | assumption | (refine below_alloc ?_ _) | (refine Below.setCell ?_ ?_ _) | (refine Below.drew ?_) | (refine below_drewN ?_ _))) <;> (first | (simp; done) | (simp; omega) | omega)) hb; have hA' := HoldsA.below (by with_reducible first | assumption | exact HoldsA.new _ _ _ _ _ | exact HoldsA.drew (by assumption)) hb; obtain ⟨a0, a1, a2⟩ := id hA'; clear hb) | (go_at_call 24; (with_reducible refine (roundf_any _ _ _ _ (by assumption) (by assumption)).mono ?_); rintro e w' ⟨rfl, hb⟩; have hB := below_step (w0 := W) (by (repeat' (first | exact Below.refl _ _ | assumption | (refine below_alloc ?_ _) | (refine Below.setCell ?_ ?_ _) | (refine Below.drew ?_) | (refine below_drewN ?_ _))) <;> (first | (simp; done) | (simp; omega) | omega)) hb; have hA' := HoldsA.below (by with_reducible first | assumption | exact HoldsA.new _ _ _ _ _ | exact HoldsA.drew (by assumption)) hb; obtain ⟨a0, a1, a2⟩ := id hA'; clear hb))
    go_region_held3 (fun w' => w'.cell? ⟨w1.heap.size, 0, none⟩ = some (.bool pn) ∧ w'.cell? ⟨w1.heap.size, 1, none⟩ = some (.int .u64 pm) ∧ w'.cell? ⟨w1.heap.size, 2, none⟩ = some (.int .i64 pe)) (first | exact ⟨a0, a1, a2⟩ | go_keep) ((first | (go_at_call 25; (with_reducible refine (rparts_any _ _ (by assumption) (by assumption) (by assumption)).mono ?_); rintro e w' ⟨rfl, hb⟩; have hB := below_step (w0 := W) (by (repeat' (first | exact Below.refl _ _ | assumption | (refine below_alloc ?_ _) | (refine Below.setCell ?_ ?_ _) | (refine Below.drew ?_) | (refine below_drewN ?_ _))) <;> (first | (simp; done) | (simp; omega) | omega)) hb; have hA' := HoldsA.below (by with_reducible first | assumption | exact HoldsA.new _ _ _ _ _ | exact HoldsA.drew (by assumption)) hb; obtain ⟨a0, a1, a2⟩ := id hA'; clear hb) | (go_at_call 22; (with_reducible refine (num_any _ _).mono ?_); rintro e w' ⟨rfl, rfl⟩) | (go_at_call 19; (with_reducible refine (known_any _ (hT.below (by (repeat' (first | exact Below.refl _ _ | assumption | (refine below_alloc ?_ _) | (refine Below.setCell ?_ ?_ _) | (refine Below.drew ?_) | (refine below_drewN ?_ _))) <;> (first | (simp; done) | (simp; omega) | omega)))).mono ?_); rintro e w' ⟨rfl, hb⟩; have hB := below_step (w0 := W) (by (repeat' (first | exact Below.refl _ _ | assumption | (refine below_alloc ?_ _) | (refine Below.setCell ?_ ?_ _) | (refine Below.drew ?_) | (refine below_drewN ?_ _))) <;> (first | (simp; done) | (simp; omega) | omega)) hb; have hA' := HoldsA.below (by with_reducible first | assumption | exact HoldsA.new _ _ _ _ _ | exact HoldsA.drew (by assumption)) hb; obtain ⟨a0, a1, a2⟩ := id hA'; clear hb)))
    all_goals go_wp2_with fail
    all_goals go_ret
    all_goals exact ⟨rfl, by assumption⟩
  · have hcb : decide (classI x ≤ 3) = false := by simpa using hc3
    have hpe : pErr x = 2 := by unfold pErr; rw [if_neg hc3]
    have hpn : pNeg x = false := by unfold pNeg; simp only [hcb, Bool.false_and]
    have hpm : pMan x = 0 := by unfold pMan; rw [if_neg (by omega), if_neg (by omega)]
    have hpe' : pExp x = 0 := by unfold pExp; rw [if_neg (by omega), if_neg (by omega)]
    clear hc3
    go_enter Tryd.func4, Tryd.ntmps4
    go_wp2_with (first | (go_at_call 20; (with_reducible refine (parts_any _ _ (by assumption) (by assumption)).mono ?_); rintro e w' ⟨rfl, hb⟩; have hB := below_step (w0 := W) (by (repeat' (first | exact Below.refl _ _ | assumption | (refine below_alloc ?_ _) | (refine Below.setCell ?_ ?_ _) | (refine Below.drew ?_) | (refine below_drewN ?_ _))) <;> (first | (simp; done) | (simp; omega) | omega)) hb; have hs := hb.size; (try simp at hs); (try have hz0 : W.heap.size < w'.heap.size := by omega); (try have hz1 : W.heap.size + 1 < w'.heap.size := by omega); (try have hz2 : W.heap.size + 1 + 1 < w'.heap.size := by omega); obtain ⟨hc, hf⟩ := bcell hb; clear hb) | (go_at_call 21; (with_reducible refine (rfinite_any _ _ (by assumption) (by assumption)).mono ?_); rintro e w' ⟨rfl, rfl⟩) | (go_at_call 22; (with_reducible refine (num_any _ _).mono ?_); rintro e w' ⟨rfl, rfl⟩) | (go_at_call 19; (with_reducible refine (known_any _ (hT.below (by (repeat' (first | exact Below.refl _ _ | assumption | (refine below_alloc ?_ _) | (refine Below.setCell ?_ ?_ _) | (refine Below.drew ?_) | (refine below_drewN ?_ _))) <;> (first | (simp; done) | (simp; omega) | omega)))).mono ?_); rintro e w' ⟨rfl, hb⟩; have hB := below_step (w0 := W) (by (repeat' (first | exact Below.refl _ _ | assumption | (refine below_alloc ?_ _) | (refine Below.setCell ?_ ?_ _) | (refine Below.drew ?_) | (refine below_drewN ?_ _))) <;> (first | (simp; done) | (simp; omega) | omega)) hb; clear hb))
    go_ret
    exact ⟨rfl, by assumption⟩

end Go.Proofs.YtaeognfpmhfmgaaDoor
