/-
  The law 'BitsRound' holds of the program for every input that can be read as data: the walk of its call, lifted to the given statement and closed as its card (the library's table of trailing noughts tied to its text).
-/
import Derived.Test.YtaeognfpmhfmgaaDoorBitsW1
import Derived.Test.YtaeognfpmhfmgaaDoorCards
import Derived.Test.YtaeognfpmhfmgaaDoorTie
import Derived.Lib.SmallJoins
set_option linter.unusedSimpArgs false
set_option linter.unusedVariables false
namespace Go.Proofs.YtaeognfpmhfmgaaDoor
open Go.ChangeShapes Go.WideShapes Go.ChangeAt Go.RowKit Go.Plumb

theorem c_BitsRound (H : Type) (enc : TypeId × Value → H) (W : World) (base : Nat) (args : Array Value) (ds gs : List (DataW H)) (before : List MemPlace)
    (hval : ∀ (j : Nat) t v, Tryd.f6.params[j]? = some t → args[j]? = some v → Value.okWide Tryd.prog W .any base t v)
    (hW : DataW.Whole enc Tryd.prog Tryd.f6.params.toList Rows.bitsRoundSpec.vars false W args.toList ds gs before) (hL : laidMetH Tryd.prog Rows.bitsRoundRow.laid W) :
    Calls Tryd.prog 6 args W fun e W' => ∃ v, e = .returned v ∧ Rows.bitsRoundSpec.post enc Tryd.prog Tryd.f6 false true false false W args v W' := by
  have hT : Tab W := tab_of hL
  have hW' := hW
  obtain ⟨p, q, hA0, hV, rfl, hfz, hnd⟩ := hW
  have hA : DataW.TrodAll enc Tryd.prog W 0 (fun _ => true) true Tryd.f6.params.toList args.toList ds p := hA0
  rw [Tryd.params6] at hA hval
  obtain ⟨v0, vs0, d0, ds0, p0, q0, ha0, rfl, rfl, h0, r0⟩ := trodAll_cons hA
  obtain ⟨v1, vs1, d1, ds1, p1, q1, ha1, rfl, rfl, h1, r1⟩ := trodAll_cons r0
  obtain ⟨hn, rfl, rfl⟩ := trodAll_nil r1
  obtain rfl : args = #[v0, v1] := by
    apply Array.toList_inj.1
    simp only [ha0, ha1, hn]
  obtain ⟨c0_0, c1_0, c2_0, y0_0, y1_0, y2_0, m_0, rfl, rfl, rfl, k0_0, k1_0, k2_0⟩ := Go.Joins.open_agg3 Tryd.underlying32 (by kernel_rfl) (by kernel_rfl) (hval 0 32 v0 rfl rfl) h0
  obtain ⟨x0n, e0_0, rfl⟩ := DataW.trod_bool Tryd.underlying4 k0_0
  obtain ⟨x0m, e1_0, rfl, w1_0⟩ := DataW.trod_int Tryd.underlying22 k1_0
  obtain ⟨x0e, e2_0, rfl, w2_0⟩ := DataW.trod_int Tryd.underlying3 k2_0
  obtain rfl : c0_0 = .bool x0n := by simpa using e0_0
  obtain rfl : c1_0 = .int .u64 x0m := by simpa using e1_0
  obtain rfl : c2_0 = .int .i64 x0e := by simpa using e2_0
  have b1_0 := bounds_u64 w1_0
  have b2_0 := bounds_i64 w2_0
  obtain ⟨x1, rfl, rfl, rfl⟩ := open_bool Tryd.underlying4 (hval 1 4 v1 rfl rfl) h1
  refine (w_BitsRound W hT x0n x0m x0e (by omega) (by omega) (by omega) (by omega) x1).mono fun e W' ⟨he, hb⟩ => ⟨_, he, law_post (tb := 4) (by kernel_rfl) (by kernel_rfl) rfl Tryd.underlying4 rfl hW' (fun ds hd => ?_) hb⟩
  match ds, hd with
  | [e0, e1], _ => rfl

theorem reads_BitsRound (os : Os) {H : Type} (enc : TypeId × Value → H) : ∃ places, DataW.whole enc Tryd.prog ((laidWorld os).forCall (fun _ _ => 0) ⟨#[], #[Value.agg #[.bool false, .int .u64 0, .int .i64 0], Value.bool false], []⟩).memory Tryd.f6.params.toList Rows.bitsRoundSpec.vars false (#[Value.agg #[.bool false, .int .u64 0, .int .i64 0], Value.bool false] : Array Value).toList 8 = some ([.agg [.lit (.bool false), .lit (.int .u64 0), .lit (.int .i64 0)], .lit (.bool false)], [], places) :=
  ⟨[], by kernel_rfl⟩
theorem laid_BitsRound (os : Os) : laidMet Tryd.prog Rows.bitsRoundRow.laid ((laidWorld os).forCall (fun _ _ => 0) ⟨#[], #[Value.agg #[.bool false, .int .u64 0, .int .i64 0], Value.bool false], []⟩).memory :=
  laidMet_of_run' 8 (by kernel_rfl) (by kernel_rfl)

set_option maxRecDepth 100000 in
theorem lifted_BitsRound (os : Os) (started : os.Started) (H : Type) (enc : TypeId × Value → H) (F : Stop.Interp) :
    ReturnsInHanded {} Tryd.checked os 6 .any ((OpenSpec.ofChange Rows.bitsRoundSpec).preRow enc Tryd.prog Tryd.f6 Rows.bitsRoundRow.domain false Rows.bitsRoundRow.laid) (((OpenSpec.ofChange Rows.bitsRoundSpec).at F).post enc Tryd.prog Tryd.f6 false true false false) := by
  obtain ⟨places, hx⟩ := reads_BitsRound os enc
  refine returnsInHanded_of_row (C := Tryd.checked) (s := OpenSpec.ofChange Rows.bitsRoundSpec) own started (by kernel_rfl) Tryd.func6
    (witness_row_at (enc := enc) (C := Tryd.checked) false (laidWorld os) #[Value.agg #[.bool false, .int .u64 0, .int .i64 0], Value.bool false] rfl (by kernel_rfl) (by kernel_rfl) (by kernel_rfl)
      (OpenSpec.preRow_of_cond 8 hx (by kernel_rfl) (fun k hk => by cases hk) (by kernel_rfl) (laid_BitsRound os))) ?_
  intro W base args ds gs before hval hW _ _ _ hL _ _
  exact c_BitsRound H enc W base args ds gs before hval hW hL

theorem said_BitsRound : Rows.BitsRoundSaid :=
  OpenClaim.holds_of_cond 6 Tryd.f6 rfl rfl rfl rfl rfl rfl rfl ⟨rfl, rfl, rfl, rfl, rfl⟩ rfl rfl rfl rfl rfl (by kernel_rfl) Tryd.func6 (by kernel_rfl)
    (of_decide_eq_true (by kernel_rfl)) (by unfold Func.isWrapper; first | (rw [if_pos (by decide +kernel)]; kernel_rfl) | (rw [if_neg (by decide +kernel)]; exact ⟨rfl, rfl⟩))
    (fun os started H enc _ F => by rw [OpenClaim.pre_eq_preRow]; exact lifted_BitsRound os started H enc F)

theorem plain_BitsRound (f : FuncId) (fn : Func) (hf : Tryd.pinned.checked.prog.funcNamed "plumbline/plumblinelaw01.BitsRound" = some f) (hfn : Tryd.pinned.checked.prog.funcs[f]? = some fn) :
    false = Tryd.pinned.checked.prog.looks [] ∧ ∀ (j : Nat) t, fn.params[j]? = some t → Tryd.pinned.checked.prog.wantsStandIn t = false := by
  obtain rfl : f = 6 := Option.some.inj ((show Tryd.prog.funcNamed "plumbline/plumblinelaw01.BitsRound" = some 6 by kernel_rfl).symm.trans hf) |>.symm
  obtain rfl : fn = Tryd.f6 := (Option.some.inj (Tryd.func6.symm.trans hfn)).symm
  refine ⟨by kernel_rfl, fun j t ht => ?_⟩
  have hall : Tryd.f6.params.toList.all (fun t => !Tryd.prog.wantsStandIn t) = true := by kernel_rfl
  have hm := List.all_eq_true.1 hall t (Array.mem_toList_iff.2 (Array.mem_of_getElem? ht))
  exact (by simpa using hm : Tryd.prog.wantsStandIn t = false)

/-- THE CARD of 'BitsRound'. -/
theorem card_BitsRound : Rows.BitsRoundCardSaid :=
  Claim7.holds_tied_plain_at .later [] _ _ _ _ said_BitsRound (fun _ h => by cases h) (by kernel_rfl) (fun _ h => by cases h) bitsRound_row_tie rfl ⟨rfl, rfl⟩ (by kernel_rfl) rfl plain_BitsRound (by kernel_rfl)
end Go.Proofs.YtaeognfpmhfmgaaDoor
