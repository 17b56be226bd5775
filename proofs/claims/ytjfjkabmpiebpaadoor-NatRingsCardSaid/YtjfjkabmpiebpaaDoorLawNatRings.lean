/-
  The law 'NatRings' holds of the program for every input that can be read as data: the walk of its call, lifted to the given statement and closed as its card (the library's three tables that the row lists are tied to their texts).
-/
import Derived.Test.YtjfjkabmpiebpaaDoorNatWb
import Derived.Test.YtjfjkabmpiebpaaDoorNatW6
import Derived.Test.YtjfjkabmpiebpaaDoorCards
import Derived.Test.YtjfjkabmpiebpaaDoorTie
import Derived.Lib.SmallJoins
set_option linter.unusedSimpArgs false
set_option linter.unusedVariables false
namespace Go.Proofs.YtjfjkabmpiebpaaDoor
open Go.ChangeShapes Go.WideShapes Go.ChangeAt Go.RowKit Go.Plumb

set_option maxRecDepth 100000 in
theorem c_NatRings (H : Type) (enc : TypeId × Value → H) (W : World) (base : Nat) (args : Array Value) (ds gs : List (DataW H)) (before : List MemPlace)
    (hval : ∀ (j : Nat) t v, Tryd.f10.params[j]? = some t → args[j]? = some v → Value.okWide Tryd.prog W .any base t v)
    (hW : DataW.Whole enc Tryd.prog Tryd.f10.params.toList Rows.natRingsSpec.vars false W args.toList ds gs before) (hL : laidMetH Tryd.prog Rows.natRingsRow.laid W) :
    Calls Tryd.prog 10 args W fun e W' => ∃ v, e = .returned v ∧ Rows.natRingsSpec.post enc Tryd.prog Tryd.f10 false true false false W args v W' := by
  have hT : Tab W := tab_of hL
  have hW' := hW
  obtain ⟨p, q, hA0, hV, rfl, hfz, hnd⟩ := hW
  have hA : DataW.TrodAll enc Tryd.prog W 0 (fun _ => true) true Tryd.f10.params.toList args.toList ds p := hA0
  rw [Tryd.params10] at hA hval
  obtain ⟨v0, vs0, d0, ds0, p0, q0, ha0, rfl, rfl, h0, r0⟩ := trodAll_cons hA
  obtain ⟨v1, vs1, d1, ds1, p1, q1, ha1, rfl, rfl, h1, r1⟩ := trodAll_cons r0
  obtain ⟨v2, vs2, d2, ds2, p2, q2, ha2, rfl, rfl, h2, r2⟩ := trodAll_cons r1
  obtain ⟨hn, rfl, rfl⟩ := trodAll_nil r2
  obtain rfl : args = #[v0, v1, v2] := by
    apply Array.toList_inj.1
    simp only [ha0, ha1, ha2, hn]
  obtain ⟨y0, n0, c0, l0, rfl, hn0⟩ := open_nat (hval 0 22 v0 rfl rfl) h0
  obtain ⟨y1, n1, c1, l1, rfl, hn1⟩ := open_nat (hval 1 22 v1 rfl rfl) h1
  obtain ⟨y2, n2, c2, l2, rfl, hn2⟩ := open_nat (hval 2 22 v2 rfl rfl) h2
  refine (w_NatRings W hT y0 n0 c0 l0 hn0 y1 n1 c1 l1 hn1 y2 n2 c2 l2 hn2).mono fun e W' ⟨he, hb⟩ => ⟨_, he, law_post (tb := 4) (by kernel_rfl) (by kernel_rfl) rfl Tryd.underlying4 rfl hW' (fun ds hd => ?_) hb⟩
  match ds, hd with
  | [e0, e1, e2], _ => rfl

theorem reads_NatRings (os : Os) {H : Type} (enc : TypeId × Value → H) : ∃ places, DataW.whole enc Tryd.prog ((laidWorld os).forCall (fun _ _ => 0) ⟨#[], #[Value.slice none 0 0, Value.slice none 0 0, Value.slice none 0 0], []⟩).memory Tryd.f10.params.toList Rows.natRingsSpec.vars false (#[Value.slice none 0 0, Value.slice none 0 0, Value.slice none 0 0] : Array Value).toList 8 = some ([.nil, .nil, .nil], [], places) :=
  ⟨[], by kernel_rfl⟩

set_option maxRecDepth 100000 in
theorem lifted_NatRings (os : Os) (started : os.Started) (H : Type) (enc : TypeId × Value → H) (F : Stop.Interp) :
    ReturnsInHanded {} Tryd.checked os 10 .any ((OpenSpec.ofChange Rows.natRingsSpec).preRow enc Tryd.prog Tryd.f10 Rows.natRingsRow.domain false Rows.natRingsRow.laid) (((OpenSpec.ofChange Rows.natRingsSpec).at F).post enc Tryd.prog Tryd.f10 false true false false) := by
  obtain ⟨places, hx⟩ := reads_NatRings os enc
  refine returnsInHanded_of_row (C := Tryd.checked) (s := OpenSpec.ofChange Rows.natRingsSpec) own started (by kernel_rfl) Tryd.func10
    (witness_row_at (enc := enc) (C := Tryd.checked) false (laidWorld os) #[Value.slice none 0 0, Value.slice none 0 0, Value.slice none 0 0] (World.laidAll_os _ _ _) (by kernel_rfl) (by kernel_rfl) (by kernel_rfl)
      (OpenSpec.preRow_of_cond 8 hx (by kernel_rfl) (fun k hk => by cases hk) (by kernel_rfl) (laid_all os _))) ?_
  intro W base args ds gs before hval hW _ _ _ hL _ _
  exact c_NatRings H enc W base args ds gs before hval hW hL

theorem said_NatRings : Rows.NatRingsSaid :=
  OpenClaim.holds_of_cond 10 Tryd.f10 rfl rfl rfl rfl rfl rfl rfl ⟨rfl, rfl, rfl, rfl, rfl⟩ rfl rfl rfl rfl rfl (by kernel_rfl) Tryd.func10 (by kernel_rfl)
    (of_decide_eq_true (by kernel_rfl)) (by unfold Func.isWrapper; first | (rw [if_pos (by decide +kernel)]; kernel_rfl) | (rw [if_neg (by decide +kernel)]; exact ⟨rfl, rfl⟩))
    (fun os started H enc _ F => by rw [OpenClaim.pre_eq_preRow]; exact lifted_NatRings os started H enc F)

theorem plain_NatRings (f : FuncId) (fn : Func) (hf : Tryd.pinned.checked.prog.funcNamed "plumbline/plumblinelaw02.NatRings" = some f) (hfn : Tryd.pinned.checked.prog.funcs[f]? = some fn) :
    false = Tryd.pinned.checked.prog.looks [] ∧ ∀ (j : Nat) t, fn.params[j]? = some t → Tryd.pinned.checked.prog.wantsStandIn t = false := by
  obtain rfl : f = 10 := Option.some.inj ((show Tryd.prog.funcNamed "plumbline/plumblinelaw02.NatRings" = some 10 by kernel_rfl).symm.trans hf) |>.symm
  obtain rfl : fn = Tryd.f10 := (Option.some.inj (Tryd.func10.symm.trans hfn)).symm
  refine ⟨by kernel_rfl, fun j t ht => ?_⟩
  have hall : Tryd.f10.params.toList.all (fun t => !Tryd.prog.wantsStandIn t) = true := by kernel_rfl
  have hm := List.all_eq_true.1 hall t (Array.mem_toList_iff.2 (Array.mem_of_getElem? ht))
  exact (by simpa using hm : Tryd.prog.wantsStandIn t = false)

/-- THE CARD of 'NatRings'. -/
theorem card_NatRings : Rows.NatRingsCardSaid :=
  Claim7.holds_tied_plain_at .later [] _ _ _ _ said_NatRings (fun _ h => by cases h) (by kernel_rfl) (fun _ h => by cases h) natRings_row_tie rfl ⟨rfl, rfl⟩ (by kernel_rfl) rfl plain_NatRings (by kernel_rfl)
end Go.Proofs.YtjfjkabmpiebpaaDoor
