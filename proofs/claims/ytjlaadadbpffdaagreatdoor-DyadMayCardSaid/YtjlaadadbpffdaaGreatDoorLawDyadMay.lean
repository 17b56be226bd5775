/-
  The law 'DyadMay' holds of the program for every input that can be read as data: the walk of its call, lifted to the given statement and closed as its card (the library's three tables that the row lists are tied to their texts).
-/
import Derived.Test.YtjlaadadbpffdaaGreatDoorDyFs
import Derived.Test.YtjlaadadbpffdaaGreatDoorDyWh
import Derived.Test.YtjlaadadbpffdaaGreatDoorCards
import Derived.Test.YtjlaadadbpffdaaGreatDoorTie
import Derived.Lib.SmallJoins
set_option linter.unusedSimpArgs false
set_option linter.unusedVariables false
namespace Go.Proofs.YtjlaadadbpffdaaGreatDoor
open Go.ChangeShapes Go.WideShapes Go.ChangeAt Go.RowKit Go.Plumb

set_option maxRecDepth 100000 in
theorem c_DyadMay (H : Type) (enc : TypeId × Value → H) (W : World) (base : Nat) (args : Array Value) (ds gs : List (DataW H)) (before : List MemPlace)
    (hval : ∀ (j : Nat) t v, Tryz.f13.params[j]? = some t → args[j]? = some v → Value.okWide Tryz.prog W .any base t v)
    (hW : DataW.Whole enc Tryz.prog Tryz.f13.params.toList Rows.dyadMaySpec.vars false W args.toList ds gs before) (hL : laidMetH Tryz.prog Rows.dyadMayRow.laid W) :
    Calls Tryz.prog 13 args W fun e W' => ∃ v, e = .returned v ∧ Rows.dyadMaySpec.post enc Tryz.prog Tryz.f13 false true false false W args v W' := by
  obtain ⟨hT, hQ⟩ := tab_of hL
  have hW' := hW
  obtain ⟨p, q, hA0, hV, rfl, hfz, hnd⟩ := hW
  have hA : DataW.TrodAll enc Tryz.prog W 0 (fun _ => true) true Tryz.f13.params.toList args.toList ds p := hA0
  rw [Tryz.params13] at hA hval
  obtain ⟨v0, vs0, d0, ds0, p0, q0, ha0, rfl, rfl, h0, r0⟩ := trodAll_cons hA
  obtain ⟨hn, rfl, rfl⟩ := trodAll_nil r0
  obtain rfl : args = #[v0] := by
    apply Array.toList_inj.1
    simp only [ha0, hn]
  obtain ⟨s0, y0, n0, c0, l0, e0, rfl, hn0, be00, be01⟩ := open_dyad (hval 0 24 v0 rfl rfl) h0
  refine (w_DyadMay W hT hQ s0 y0 n0 c0 l0 e0 hn0 be00 be01).mono fun e W' ⟨he, hb⟩ => ⟨_, he, law_post (tb := 4) (by kernel_rfl) (by kernel_rfl) rfl Tryz.underlying4 rfl hW' (fun ds hd => ?_) hb⟩
  match ds, hd with
  | [e0], _ => rfl

theorem reads_DyadMay (os : Os) {H : Type} (enc : TypeId × Value → H) : ∃ places, DataW.whole enc Tryz.prog ((laidWorld os).forCall (fun _ _ => 0) ⟨#[], #[Value.agg #[.bool false, .slice none 0 0, .int .i64 0]], []⟩).memory Tryz.f13.params.toList Rows.dyadMaySpec.vars false (#[Value.agg #[.bool false, .slice none 0 0, .int .i64 0]] : Array Value).toList 8 = some ([.agg [.lit (.bool false), .nil, .lit (.int .i64 0)]], [], places) :=
  ⟨[], by kernel_rfl⟩

set_option maxRecDepth 100000 in
theorem lifted_DyadMay (os : Os) (started : os.Started) (H : Type) (enc : TypeId × Value → H) (F : Stop.Interp) :
    ReturnsInHanded {} Tryz.checked os 13 .any ((OpenSpec.ofChange Rows.dyadMaySpec).preRow enc Tryz.prog Tryz.f13 Rows.dyadMayRow.domain false Rows.dyadMayRow.laid) (((OpenSpec.ofChange Rows.dyadMaySpec).at F).post enc Tryz.prog Tryz.f13 false true false false) := by
  obtain ⟨places, hx⟩ := reads_DyadMay os enc
  refine returnsInHanded_of_row (C := Tryz.checked) (s := OpenSpec.ofChange Rows.dyadMaySpec) own started (by kernel_rfl) Tryz.func13
    (witness_row_at (enc := enc) (C := Tryz.checked) false (laidWorld os) #[Value.agg #[.bool false, .slice none 0 0, .int .i64 0]] (World.laidAll_os _ _ _) (by kernel_rfl) (by kernel_rfl) (by kernel_rfl)
      (OpenSpec.preRow_of_cond 8 hx (by kernel_rfl) (fun k hk => by cases hk) (by kernel_rfl) (laid_all os _))) ?_
  intro W base args ds gs before hval hW _ _ _ hL _ _
  exact c_DyadMay H enc W base args ds gs before hval hW hL

theorem said_DyadMay : Rows.DyadMaySaid :=
  OpenClaim.holds_of_cond 13 Tryz.f13 rfl rfl rfl rfl rfl rfl rfl ⟨rfl, rfl, rfl, rfl, rfl⟩ rfl rfl rfl rfl rfl (by kernel_rfl) Tryz.func13 (by kernel_rfl)
    (of_decide_eq_true (by kernel_rfl)) (by unfold Func.isWrapper; first | (rw [if_pos (by decide +kernel)]; kernel_rfl) | (rw [if_neg (by decide +kernel)]; exact ⟨rfl, rfl⟩))
    (fun os started H enc _ F => by rw [OpenClaim.pre_eq_preRow]; exact lifted_DyadMay os started H enc F)

theorem plain_DyadMay (f : FuncId) (fn : Func) (hf : Tryz.pinned.checked.prog.funcNamed "plumbline/plumblinelaw03.DyadMay" = some f) (hfn : Tryz.pinned.checked.prog.funcs[f]? = some fn) :
    false = Tryz.pinned.checked.prog.looks [] ∧ ∀ (j : Nat) t, fn.params[j]? = some t → Tryz.pinned.checked.prog.wantsStandIn t = false := by
  obtain rfl : f = 13 := Option.some.inj ((show Tryz.prog.funcNamed "plumbline/plumblinelaw03.DyadMay" = some 13 by kernel_rfl).symm.trans hf) |>.symm
  obtain rfl : fn = Tryz.f13 := (Option.some.inj (Tryz.func13.symm.trans hfn)).symm
  refine ⟨by kernel_rfl, fun j t ht => ?_⟩
  have hall : Tryz.f13.params.toList.all (fun t => !Tryz.prog.wantsStandIn t) = true := by kernel_rfl
  have hm := List.all_eq_true.1 hall t (Array.mem_toList_iff.2 (Array.mem_of_getElem? ht))
  exact (by simpa using hm : Tryz.prog.wantsStandIn t = false)

/-- THE CARD of 'DyadMay'. -/
theorem card_DyadMay : Rows.DyadMayCardSaid :=
  Claim7.holds_tied_plain_at .later [] _ _ _ _ said_DyadMay (fun _ h => by cases h) (by kernel_rfl) (fun _ h => by cases h) dyadMay_row_tie rfl ⟨rfl, rfl⟩ (by kernel_rfl) rfl plain_DyadMay (by kernel_rfl)
end Go.Proofs.YtjlaadadbpffdaaGreatDoor
