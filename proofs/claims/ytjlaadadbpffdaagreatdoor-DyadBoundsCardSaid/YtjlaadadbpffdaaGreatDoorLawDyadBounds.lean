/-
  The law 'DyadBounds' holds of the program for every input that can be read as data: the walk of its call, lifted to the given statement and closed as its card (the library's three tables that the row lists are tied to their texts).
-/
import Derived.Test.YtjlaadadbpffdaaGreatDoorDyFs
import Derived.Test.YtjlaadadbpffdaaGreatDoorDyWd
import Derived.Test.YtjlaadadbpffdaaGreatDoorCards
import Derived.Test.YtjlaadadbpffdaaGreatDoorTie
import Derived.Lib.SmallJoins
set_option linter.unusedSimpArgs false
set_option linter.unusedVariables false
namespace Go.Proofs.YtjlaadadbpffdaaGreatDoor
open Go.ChangeShapes Go.WideShapes Go.ChangeAt Go.RowKit Go.Plumb

set_option maxRecDepth 100000 in
theorem c_DyadBounds (H : Type) (enc : TypeId × Value → H) (W : World) (base : Nat) (args : Array Value) (ds gs : List (DataW H)) (before : List MemPlace)
    (hval : ∀ (j : Nat) t v, Tryz.f14.params[j]? = some t → args[j]? = some v → Value.okWide Tryz.prog W .any base t v)
    (hW : DataW.Whole enc Tryz.prog Tryz.f14.params.toList Rows.dyadBoundsSpec.vars false W args.toList ds gs before) (hL : laidMetH Tryz.prog Rows.dyadBoundsRow.laid W) :
    Calls Tryz.prog 14 args W fun e W' => ∃ v, e = .returned v ∧ Rows.dyadBoundsSpec.post enc Tryz.prog Tryz.f14 false true false false W args v W' := by
  obtain ⟨hT, hQ⟩ := tab_of hL
  have hW' := hW
  obtain ⟨p, q, hA0, hV, rfl, hfz, hnd⟩ := hW
  have hA : DataW.TrodAll enc Tryz.prog W 0 (fun _ => true) true Tryz.f14.params.toList args.toList ds p := hA0
  rw [Tryz.params14] at hA hval
  obtain ⟨hn, rfl, rfl⟩ := trodAll_nil hA
  obtain rfl : args = #[] := by
    apply Array.toList_inj.1
    simpa using hn
  refine (w_DyadBounds W hT hQ ).mono fun e W' ⟨he, hb⟩ => ⟨_, he, law_post (tb := 4) (by kernel_rfl) (by kernel_rfl) rfl Tryz.underlying4 rfl hW' (fun ds hd => ?_) hb⟩
  match ds, hd with
  | [], _ => rfl

theorem reads_DyadBounds (os : Os) {H : Type} (enc : TypeId × Value → H) : ∃ places, DataW.whole enc Tryz.prog ((laidWorld os).forCall (fun _ _ => 0) ⟨#[], #[], []⟩).memory Tryz.f14.params.toList Rows.dyadBoundsSpec.vars false (#[] : Array Value).toList 8 = some ([], [], places) :=
  ⟨[], by kernel_rfl⟩

set_option maxRecDepth 100000 in
theorem lifted_DyadBounds (os : Os) (started : os.Started) (H : Type) (enc : TypeId × Value → H) (F : Stop.Interp) :
    ReturnsInHanded {} Tryz.checked os 14 .any ((OpenSpec.ofChange Rows.dyadBoundsSpec).preRow enc Tryz.prog Tryz.f14 Rows.dyadBoundsRow.domain false Rows.dyadBoundsRow.laid) (((OpenSpec.ofChange Rows.dyadBoundsSpec).at F).post enc Tryz.prog Tryz.f14 false true false false) := by
  obtain ⟨places, hx⟩ := reads_DyadBounds os enc
  refine returnsInHanded_of_row (C := Tryz.checked) (s := OpenSpec.ofChange Rows.dyadBoundsSpec) own started (by kernel_rfl) Tryz.func14
    (witness_row_at (enc := enc) (C := Tryz.checked) false (laidWorld os) #[] (World.laidAll_os _ _ _) (by kernel_rfl) (by kernel_rfl) (by kernel_rfl)
      (OpenSpec.preRow_of_cond 8 hx (by kernel_rfl) (fun k hk => by cases hk) (by kernel_rfl) (laid_all os _))) ?_
  intro W base args ds gs before hval hW _ _ _ hL _ _
  exact c_DyadBounds H enc W base args ds gs before hval hW hL

theorem said_DyadBounds : Rows.DyadBoundsSaid :=
  OpenClaim.holds_of_cond 14 Tryz.f14 rfl rfl rfl rfl rfl rfl rfl ⟨rfl, rfl, rfl, rfl, rfl⟩ rfl rfl rfl rfl rfl (by kernel_rfl) Tryz.func14 (by kernel_rfl)
    (of_decide_eq_true (by kernel_rfl)) (by unfold Func.isWrapper; first | (rw [if_pos (by decide +kernel)]; kernel_rfl) | (rw [if_neg (by decide +kernel)]; exact ⟨rfl, rfl⟩))
    (fun os started H enc _ F => by rw [OpenClaim.pre_eq_preRow]; exact lifted_DyadBounds os started H enc F)

theorem plain_DyadBounds (f : FuncId) (fn : Func) (hf : Tryz.pinned.checked.prog.funcNamed "plumbline/plumblinelaw03.DyadBounds" = some f) (hfn : Tryz.pinned.checked.prog.funcs[f]? = some fn) :
    false = Tryz.pinned.checked.prog.looks [] ∧ ∀ (j : Nat) t, fn.params[j]? = some t → Tryz.pinned.checked.prog.wantsStandIn t = false := by
  obtain rfl : f = 14 := Option.some.inj ((show Tryz.prog.funcNamed "plumbline/plumblinelaw03.DyadBounds" = some 14 by kernel_rfl).symm.trans hf) |>.symm
  obtain rfl : fn = Tryz.f14 := (Option.some.inj (Tryz.func14.symm.trans hfn)).symm
  refine ⟨by kernel_rfl, fun j t ht => ?_⟩
  have hall : Tryz.f14.params.toList.all (fun t => !Tryz.prog.wantsStandIn t) = true := by kernel_rfl
  have hm := List.all_eq_true.1 hall t (Array.mem_toList_iff.2 (Array.mem_of_getElem? ht))
  exact (by simpa using hm : Tryz.prog.wantsStandIn t = false)

/-- THE CARD of 'DyadBounds'. -/
theorem card_DyadBounds : Rows.DyadBoundsCardSaid :=
  Claim7.holds_tied_plain_at .later [] _ _ _ _ said_DyadBounds (fun _ h => by cases h) (by kernel_rfl) (fun _ h => by cases h) dyadBounds_row_tie rfl ⟨rfl, rfl⟩ (by kernel_rfl) rfl plain_DyadBounds (by kernel_rfl)
end Go.Proofs.YtjlaadadbpffdaaGreatDoor
