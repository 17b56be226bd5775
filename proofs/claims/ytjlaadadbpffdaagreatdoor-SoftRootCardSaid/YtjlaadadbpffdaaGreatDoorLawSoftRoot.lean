/-
  The law 'SoftRoot' holds of the program for every input that can be read as data: the walk of its call, lifted to the given statement and closed as its card (the library's table that the row lists is tied to its text).
-/
import Derived.Test.YtjlaadadbpffdaaGreatDoorDyFs
import Derived.Test.YtjlaadadbpffdaaGreatDoorSfFr
import Derived.Test.YtjlaadadbpffdaaGreatDoorSfWa
import Derived.Test.YtjlaadadbpffdaaGreatDoorCards
import Derived.Test.YtjlaadadbpffdaaGreatDoorTie
import Derived.Lib.SmallJoins
set_option linter.unusedSimpArgs false
set_option linter.unusedVariables false
namespace Go.Proofs.YtjlaadadbpffdaaGreatDoor
open Go.ChangeShapes Go.WideShapes Go.ChangeAt Go.RowKit Go.Plumb

set_option maxRecDepth 100000 in
theorem c_SoftRoot (H : Type) (enc : TypeId × Value → H) (W : World) (base : Nat) (args : Array Value) (ds gs : List (DataW H)) (before : List MemPlace)
    (hval : ∀ (j : Nat) t v, Tryz.f4.params[j]? = some t → args[j]? = some v → Value.okWide Tryz.prog W .any base t v)
    (hW : DataW.Whole enc Tryz.prog Tryz.f4.params.toList Rows.softRootSpec.vars false W args.toList ds gs before) (hL : laidMetH Tryz.prog Rows.softRootRow.laid W) :
    Calls Tryz.prog 4 args W fun e W' => ∃ v, e = .returned v ∧ Rows.softRootSpec.post enc Tryz.prog Tryz.f4 false true false false W args v W' := by
  have hT := tab1_of hL
  have hW' := hW
  obtain ⟨p, q, hA0, hV, rfl, hfz, hnd⟩ := hW
  have hA : DataW.TrodAll enc Tryz.prog W 0 (fun _ => true) true Tryz.f4.params.toList args.toList ds p := hA0
  rw [Tryz.params4] at hA hval
  obtain ⟨v0, vs0, d0, ds0, p0, q0, ha0, rfl, rfl, h0, r0⟩ := trodAll_cons hA
  obtain ⟨hn, rfl, rfl⟩ := trodAll_nil r0
  obtain rfl : args = #[v0] := by
    apply Array.toList_inj.1
    simp only [ha0, hn]
  obtain ⟨s0, y0, n0, c0, l0, e0, rfl, hn0, be00, be01⟩ := open_dyad (hval 0 24 v0 rfl rfl) h0
  refine (w_SoftRoot W hT s0 y0 n0 c0 l0 e0 hn0 be00 be01).mono fun e W' ⟨he, hb⟩ => ⟨_, he, law_post (tb := 4) (by kernel_rfl) (by kernel_rfl) rfl Tryz.underlying4 rfl hW' (fun ds hd => ?_) hb⟩
  match ds, hd with
  | [e0], _ => rfl

theorem reads_SoftRoot (os : Os) {H : Type} (enc : TypeId × Value → H) : ∃ places, DataW.whole enc Tryz.prog ((laidWorld1 os).forCall (fun _ _ => 0) ⟨#[], #[Value.agg #[.bool false, .slice none 0 0, .int .i64 0]], []⟩).memory Tryz.f4.params.toList Rows.softRootSpec.vars false (#[Value.agg #[.bool false, .slice none 0 0, .int .i64 0]] : Array Value).toList 8 = some ([.agg [.lit (.bool false), .nil, .lit (.int .i64 0)]], [], places) :=
  ⟨[], by kernel_rfl⟩

set_option maxRecDepth 100000 in
theorem lifted_SoftRoot (os : Os) (started : os.Started) (H : Type) (enc : TypeId × Value → H) (F : Stop.Interp) :
    ReturnsInHanded {} Tryz.checked os 4 .any ((OpenSpec.ofChange Rows.softRootSpec).preRow enc Tryz.prog Tryz.f4 Rows.softRootRow.domain false Rows.softRootRow.laid) (((OpenSpec.ofChange Rows.softRootSpec).at F).post enc Tryz.prog Tryz.f4 false true false false) := by
  obtain ⟨places, hx⟩ := reads_SoftRoot os enc
  refine returnsInHanded_of_row (C := Tryz.checked) (s := OpenSpec.ofChange Rows.softRootSpec) own1 started (by kernel_rfl) Tryz.func4
    (witness_row_at (enc := enc) (C := Tryz.checked) false (laidWorld1 os) #[Value.agg #[.bool false, .slice none 0 0, .int .i64 0]] (World.laidAll_os _ _ _) (by kernel_rfl) (by kernel_rfl) (by kernel_rfl)
      (OpenSpec.preRow_of_cond 8 hx (by kernel_rfl) (fun k hk => by cases hk) (by kernel_rfl) (laid1_all os _))) ?_
  intro W base args ds gs before hval hW _ _ _ hL _ _
  exact c_SoftRoot H enc W base args ds gs before hval hW hL

theorem said_SoftRoot : Rows.SoftRootSaid :=
  OpenClaim.holds_of_cond 4 Tryz.f4 rfl rfl rfl rfl rfl rfl rfl ⟨rfl, rfl, rfl, rfl, rfl⟩ rfl rfl rfl rfl rfl (by kernel_rfl) Tryz.func4 (by kernel_rfl)
    (of_decide_eq_true (by kernel_rfl)) (by unfold Func.isWrapper; first | (rw [if_pos (by decide +kernel)]; kernel_rfl) | (rw [if_neg (by decide +kernel)]; exact ⟨rfl, rfl⟩))
    (fun os started H enc _ F => by rw [OpenClaim.pre_eq_preRow]; exact lifted_SoftRoot os started H enc F)

theorem plain_SoftRoot (f : FuncId) (fn : Func) (hf : Tryz.pinned.checked.prog.funcNamed "plumbline/plumblinelaw04.SoftRoot" = some f) (hfn : Tryz.pinned.checked.prog.funcs[f]? = some fn) :
    false = Tryz.pinned.checked.prog.looks [] ∧ ∀ (j : Nat) t, fn.params[j]? = some t → Tryz.pinned.checked.prog.wantsStandIn t = false := by
  obtain rfl : f = 4 := Option.some.inj ((show Tryz.prog.funcNamed "plumbline/plumblinelaw04.SoftRoot" = some 4 by kernel_rfl).symm.trans hf) |>.symm
  obtain rfl : fn = Tryz.f4 := (Option.some.inj (Tryz.func4.symm.trans hfn)).symm
  refine ⟨by kernel_rfl, fun j t ht => ?_⟩
  have hall : Tryz.f4.params.toList.all (fun t => !Tryz.prog.wantsStandIn t) = true := by kernel_rfl
  have hm := List.all_eq_true.1 hall t (Array.mem_toList_iff.2 (Array.mem_of_getElem? ht))
  exact (by simpa using hm : Tryz.prog.wantsStandIn t = false)

/-- THE CARD of 'SoftRoot'. -/
theorem card_SoftRoot : Rows.SoftRootCardSaid :=
  Claim7.holds_tied_plain_at .later [] _ _ _ _ said_SoftRoot (fun _ h => by cases h) (by kernel_rfl) (fun _ h => by cases h) softRoot_row_tie rfl ⟨rfl, rfl⟩ (by kernel_rfl) rfl plain_SoftRoot (by kernel_rfl)
end Go.Proofs.YtjlaadadbpffdaaGreatDoor
