/-
  The law 'SoftBounds' holds of the program for every input that can be read as data: the walk of its call, lifted to the given statement and closed as its card (the library's table that the row lists is tied to its text).
-/
import Derived.Test.YtjlaadadbpffdaaDoorSfFr
import Derived.Test.YtjlaadadbpffdaaDoorSfWc
import Derived.Test.YtjlaadadbpffdaaDoorCards
import Derived.Test.YtjlaadadbpffdaaDoorTie
import Derived.Lib.SmallJoins
set_option linter.unusedSimpArgs false
set_option linter.unusedVariables false
namespace Go.Proofs.YtjlaadadbpffdaaDoor
open Go.ChangeShapes Go.WideShapes Go.ChangeAt Go.RowKit Go.Plumb

set_option maxRecDepth 100000 in
theorem c_SoftBounds (H : Type) (enc : TypeId × Value → H) (W : World) (base : Nat) (args : Array Value) (ds gs : List (DataW H)) (before : List MemPlace)
    (hval : ∀ (j : Nat) t v, Tryd.f8.params[j]? = some t → args[j]? = some v → Value.okWide Tryd.prog W .any base t v)
    (hW : DataW.Whole enc Tryd.prog Tryd.f8.params.toList Rows.softBoundsSpec.vars false W args.toList ds gs before) (hL : laidMetH Tryd.prog Rows.softBoundsRow.laid W) :
    Calls Tryd.prog 8 args W fun e W' => ∃ v, e = .returned v ∧ Rows.softBoundsSpec.post enc Tryd.prog Tryd.f8 false true false false W args v W' := by
  have hT := tab1_of hL
  have hW' := hW
  obtain ⟨p, q, hA0, hV, rfl, hfz, hnd⟩ := hW
  have hA : DataW.TrodAll enc Tryd.prog W 0 (fun _ => true) true Tryd.f8.params.toList args.toList ds p := hA0
  rw [Tryd.params8] at hA hval
  obtain ⟨hn, rfl, rfl⟩ := trodAll_nil hA
  obtain rfl : args = #[] := by
    apply Array.toList_inj.1
    simpa using hn
  refine (w_SoftBounds W hT ).mono fun e W' ⟨he, hb⟩ => ⟨_, he, law_post (tb := 4) (by kernel_rfl) (by kernel_rfl) rfl Tryd.underlying4 rfl hW' (fun ds hd => ?_) hb⟩
  match ds, hd with
  | [], _ => rfl

theorem reads_SoftBounds (os : Os) {H : Type} (enc : TypeId × Value → H) : ∃ places, DataW.whole enc Tryd.prog ((laidWorld1 os).forCall (fun _ _ => 0) ⟨#[], #[], []⟩).memory Tryd.f8.params.toList Rows.softBoundsSpec.vars false (#[] : Array Value).toList 8 = some ([], [], places) :=
  ⟨[], by kernel_rfl⟩

set_option maxRecDepth 100000 in
theorem lifted_SoftBounds (os : Os) (started : os.Started) (H : Type) (enc : TypeId × Value → H) (F : Stop.Interp) :
    ReturnsInHanded {} Tryd.checked os 8 .any ((OpenSpec.ofChange Rows.softBoundsSpec).preRow enc Tryd.prog Tryd.f8 Rows.softBoundsRow.domain false Rows.softBoundsRow.laid) (((OpenSpec.ofChange Rows.softBoundsSpec).at F).post enc Tryd.prog Tryd.f8 false true false false) := by
  obtain ⟨places, hx⟩ := reads_SoftBounds os enc
  refine returnsInHanded_of_row (C := Tryd.checked) (s := OpenSpec.ofChange Rows.softBoundsSpec) own1 started (by kernel_rfl) Tryd.func8
    (witness_row_at (enc := enc) (C := Tryd.checked) false (laidWorld1 os) #[] (World.laidAll_os _ _ _) (by kernel_rfl) (by kernel_rfl) (by kernel_rfl)
      (OpenSpec.preRow_of_cond 8 hx (by kernel_rfl) (fun k hk => by cases hk) (by kernel_rfl) (laid1_all os _))) ?_
  intro W base args ds gs before hval hW _ _ _ hL _ _
  exact c_SoftBounds H enc W base args ds gs before hval hW hL

theorem said_SoftBounds : Rows.SoftBoundsSaid :=
  OpenClaim.holds_of_cond 8 Tryd.f8 rfl rfl rfl rfl rfl rfl rfl ⟨rfl, rfl, rfl, rfl, rfl⟩ rfl rfl rfl rfl rfl (by kernel_rfl) Tryd.func8 (by kernel_rfl)
    (of_decide_eq_true (by kernel_rfl)) (by unfold Func.isWrapper; first | (rw [if_pos (by decide +kernel)]; kernel_rfl) | (rw [if_neg (by decide +kernel)]; exact ⟨rfl, rfl⟩))
    (fun os started H enc _ F => by rw [OpenClaim.pre_eq_preRow]; exact lifted_SoftBounds os started H enc F)

theorem plain_SoftBounds (f : FuncId) (fn : Func) (hf : Tryd.pinned.checked.prog.funcNamed "plumbline/plumblinelaw04.SoftBounds" = some f) (hfn : Tryd.pinned.checked.prog.funcs[f]? = some fn) :
    false = Tryd.pinned.checked.prog.looks [] ∧ ∀ (j : Nat) t, fn.params[j]? = some t → Tryd.pinned.checked.prog.wantsStandIn t = false := by
  obtain rfl : f = 8 := Option.some.inj ((show Tryd.prog.funcNamed "plumbline/plumblinelaw04.SoftBounds" = some 8 by kernel_rfl).symm.trans hf) |>.symm
  obtain rfl : fn = Tryd.f8 := (Option.some.inj (Tryd.func8.symm.trans hfn)).symm
  refine ⟨by kernel_rfl, fun j t ht => ?_⟩
  have hall : Tryd.f8.params.toList.all (fun t => !Tryd.prog.wantsStandIn t) = true := by kernel_rfl
  have hm := List.all_eq_true.1 hall t (Array.mem_toList_iff.2 (Array.mem_of_getElem? ht))
  exact (by simpa using hm : Tryd.prog.wantsStandIn t = false)

/-- THE CARD of 'SoftBounds'. -/
theorem card_SoftBounds : Rows.SoftBoundsCardSaid :=
  Claim7.holds_tied_plain_at .later [] _ _ _ _ said_SoftBounds (fun _ h => by cases h) (by kernel_rfl) (fun _ h => by cases h) softBounds_row_tie rfl ⟨rfl, rfl⟩ (by kernel_rfl) rfl plain_SoftBounds (by kernel_rfl)
end Go.Proofs.YtjlaadadbpffdaaDoor
