/-
  The law 'DyadSums' holds of the program for every input that can be read as data: the walk of its call, lifted to the given statement and closed as its card (the library's three tables that the row lists are tied to their texts).
-/
import Derived.Test.YtjlaadadbpffdaaGreatDoorDyFs
import Derived.Test.YtjlaadadbpffdaaGreatDoorDySw
import Derived.Test.YtjlaadadbpffdaaGreatDoorCards
import Derived.Test.YtjlaadadbpffdaaGreatDoorTie
import Derived.Lib.SmallJoins
set_option linter.unusedSimpArgs false
set_option linter.unusedVariables false
namespace Go.Proofs.YtjlaadadbpffdaaGreatDoor
open Go.ChangeShapes Go.WideShapes Go.ChangeAt Go.RowKit Go.Plumb

set_option maxRecDepth 100000 in
theorem c_DyadSums (H : Type) (enc : TypeId × Value → H) (W : World) (base : Nat) (args : Array Value) (ds gs : List (DataW H)) (before : List MemPlace)
    (hval : ∀ (j : Nat) t v, Tryz.f15.params[j]? = some t → args[j]? = some v → Value.okWide Tryz.prog W .any base t v)
    (hW : DataW.Whole enc Tryz.prog Tryz.f15.params.toList Rows.dyadSumsSpec.vars false W args.toList ds gs before) (hL : laidMetH Tryz.prog Rows.dyadSumsRow.laid W) :
    Calls Tryz.prog 15 args W fun e W' => ∃ v, e = .returned v ∧ Rows.dyadSumsSpec.post enc Tryz.prog Tryz.f15 false true false false W args v W' := by
  obtain ⟨hT, hQ⟩ := tab_of hL
  have hW' := hW
  obtain ⟨p, q, hA0, hV, rfl, hfz, hnd⟩ := hW
  have hA : DataW.TrodAll enc Tryz.prog W 0 (fun _ => true) true Tryz.f15.params.toList args.toList ds p := hA0
  rw [Tryz.params15] at hA hval
  obtain ⟨v0, vs0, d0, ds0, p0, q0, ha0, rfl, rfl, h0, r0⟩ := trodAll_cons hA
  obtain ⟨v1, vs1, d1, ds1, p1, q1, ha1, rfl, rfl, h1, r1⟩ := trodAll_cons r0
  obtain ⟨hn, rfl, rfl⟩ := trodAll_nil r1
  obtain rfl : args = #[v0, v1] := by
    apply Array.toList_inj.1
    simp only [ha0, ha1, hn]
  obtain ⟨q0, g0, o0, N0, C0, s0, y0, n0, c0, l0, e0, rfl, hd0⟩ := open_dyads (hval 0 54 v0 rfl rfl) h0
  obtain ⟨q1, g1, o1, N1, C1, s1, y1, n1, c1, l1, e1, rfl, hd1⟩ := open_dyads (hval 1 54 v1 rfl rfl) h1
  refine (w_DyadSums W hT hQ q0 g0 o0 N0 C0 s0 y0 n0 c0 l0 e0 hd0 q1 g1 o1 N1 C1 s1 y1 n1 c1 l1 e1 hd1).mono fun e W' ⟨he, hb⟩ => ⟨_, he, law_post (tb := 4) (by kernel_rfl) (by kernel_rfl) rfl Tryz.underlying4 rfl hW' (fun ds hd => ?_) hb⟩
  match ds, hd with
  | [e0, e1], _ => rfl

theorem reads_DyadSums (os : Os) {H : Type} (enc : TypeId × Value → H) : ∃ places, DataW.whole enc Tryz.prog ((laidWorld os).forCall (fun _ _ => 0) ⟨#[], #[Value.slice none 0 0, Value.slice none 0 0], []⟩).memory Tryz.f15.params.toList Rows.dyadSumsSpec.vars false (#[Value.slice none 0 0, Value.slice none 0 0] : Array Value).toList 8 = some ([.nil, .nil], [], places) :=
  ⟨[], by kernel_rfl⟩

set_option maxRecDepth 100000 in
theorem lifted_DyadSums (os : Os) (started : os.Started) (H : Type) (enc : TypeId × Value → H) (F : Stop.Interp) :
    ReturnsInHanded {} Tryz.checked os 15 .any ((OpenSpec.ofChange Rows.dyadSumsSpec).preRow enc Tryz.prog Tryz.f15 Rows.dyadSumsRow.domain false Rows.dyadSumsRow.laid) (((OpenSpec.ofChange Rows.dyadSumsSpec).at F).post enc Tryz.prog Tryz.f15 false true false false) := by
  obtain ⟨places, hx⟩ := reads_DyadSums os enc
  refine returnsInHanded_of_row (C := Tryz.checked) (s := OpenSpec.ofChange Rows.dyadSumsSpec) own started (by kernel_rfl) Tryz.func15
    (witness_row_at (enc := enc) (C := Tryz.checked) false (laidWorld os) #[Value.slice none 0 0, Value.slice none 0 0] (World.laidAll_os _ _ _) (by kernel_rfl) (by kernel_rfl) (by kernel_rfl)
      (OpenSpec.preRow_of_cond 8 hx (by kernel_rfl) (fun k hk => by cases hk) (by kernel_rfl) (laid_all os _))) ?_
  intro W base args ds gs before hval hW _ _ _ hL _ _
  exact c_DyadSums H enc W base args ds gs before hval hW hL

theorem said_DyadSums : Rows.DyadSumsSaid :=
  OpenClaim.holds_of_cond 15 Tryz.f15 rfl rfl rfl rfl rfl rfl rfl ⟨rfl, rfl, rfl, rfl, rfl⟩ rfl rfl rfl rfl rfl (by kernel_rfl) Tryz.func15 (by kernel_rfl)
    (of_decide_eq_true (by kernel_rfl)) (by unfold Func.isWrapper; first | (rw [if_pos (by decide +kernel)]; kernel_rfl) | (rw [if_neg (by decide +kernel)]; exact ⟨rfl, rfl⟩))
    (fun os started H enc _ F => by rw [OpenClaim.pre_eq_preRow]; exact lifted_DyadSums os started H enc F)

theorem plain_DyadSums (f : FuncId) (fn : Func) (hf : Tryz.pinned.checked.prog.funcNamed "plumbline/plumblinelaw03.DyadSums" = some f) (hfn : Tryz.pinned.checked.prog.funcs[f]? = some fn) :
    false = Tryz.pinned.checked.prog.looks [] ∧ ∀ (j : Nat) t, fn.params[j]? = some t → Tryz.pinned.checked.prog.wantsStandIn t = false := by
  obtain rfl : f = 15 := Option.some.inj ((show Tryz.prog.funcNamed "plumbline/plumblinelaw03.DyadSums" = some 15 by kernel_rfl).symm.trans hf) |>.symm
  obtain rfl : fn = Tryz.f15 := (Option.some.inj (Tryz.func15.symm.trans hfn)).symm
  refine ⟨by kernel_rfl, fun j t ht => ?_⟩
  have hall : Tryz.f15.params.toList.all (fun t => !Tryz.prog.wantsStandIn t) = true := by kernel_rfl
  have hm := List.all_eq_true.1 hall t (Array.mem_toList_iff.2 (Array.mem_of_getElem? ht))
  exact (by simpa using hm : Tryz.prog.wantsStandIn t = false)

/-- THE CARD of 'DyadSums'. -/
theorem card_DyadSums : Rows.DyadSumsCardSaid :=
  Claim7.holds_tied_plain_at .later [] _ _ _ _ said_DyadSums (fun _ h => by cases h) (by kernel_rfl) (fun _ h => by cases h) dyadSums_row_tie rfl ⟨rfl, rfl⟩ (by kernel_rfl) rfl plain_DyadSums (by kernel_rfl)
end Go.Proofs.YtjlaadadbpffdaaGreatDoor
