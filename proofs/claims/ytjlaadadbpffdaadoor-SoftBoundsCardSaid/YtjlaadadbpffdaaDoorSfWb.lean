/-
  Layer 4's laws, walked: SoftAdd, SoftSub, SoftMul, SoftDiv, SoftSqrt, SoftFma (printed by softlaws.py).
-/
import Derived.Test.YtjlaadadbpffdaaDoorSbQ
set_option linter.unusedSimpArgs false
set_option linter.unusedVariables false
namespace Go.Plumb
open Go.RowKit
theorem sub_one_mach {x y : Nat} (hx : x < 18446744073709551616) (hy : y < 18446744073709551616) : Mach (Ieee.double.sub x y) (addW x (sgnW y true)) := by
  by_cases h : classI (y : Int) = 5
  · right
    have h3 : clsI y = 3 := by unfold clsI; rw [if_pos h]
    constructor
    · obtain ⟨s, t, hr⟩ := read_nan y h hy
      unfold Ieee.Format.sub
      rw [hr]
      cases Ieee.double.read x <;> rfl
    · have e : sgnW y true = nanN := by unfold sgnW negI; rw [if_pos rfl, if_pos h]; rfl
      rw [e]
      unfold addW
      rw [if_pos (.inr (.inl (by decide)))]
      decide
  · rw [sub_add x y h hy]
    have e : sgnW y true = (negI (y : Int)).toNat := by unfold sgnW; rw [if_pos rfl]
    rw [e]
    exact mach_add hx (by rw [← e]; exact sgn_lt y true hy)
end Go.Plumb
namespace Go.Proofs.YtjlaadadbpffdaaDoor
open Go.RowKit Go.Plumb
theorem f4_any (x : Nat) (w : World) : Calls Tryd.prog 12 #[.int .u64 (x : Int)] w fun z w' => z = .returned (.float .f64 x) ∧ w = w' := by
  have hr := run_frombits
  go_enter Tryd.func12, Tryd.ntmps12
  go_wp2_with fail
  go_ret
  exact ⟨by simp, rfl⟩
theorem find_msqrt : Extern.findNext Tryd.f44 = none ∧ Extern.find Tryd.f44 = some Extern.MathSqrt.sqrt ∧ Tryd.f44.body.isNone = true ∧ (Tryd.f44.name == "runtime.NumGoroutine") = false := ⟨by kernel_rfl, by kernel_rfl, by kernel_rfl, by kernel_rfl⟩
theorem find_mfma : Extern.findNext Tryd.f26 = none ∧ Extern.find Tryd.f26 = some Extern.MathFMA.fma ∧ Tryd.f26.body.isNone = true ∧ (Tryd.f26.name == "runtime.NumGoroutine") = false := ⟨by kernel_rfl, by kernel_rfl, by kernel_rfl, by kernel_rfl⟩
theorem call_ext {P : Program} {f : FuncId} {fn : Func} {e : Array Value → Sem Value} (hf : P.funcs[f]? = some fn) (h : Extern.findNext fn = none ∧ Extern.find fn = some e ∧ fn.body.isNone = true ∧ (fn.name == "runtime.NumGoroutine") = false) (args : Array Value) (w : World) {v : Value} {w' : World} (hr : Sem.run P (e args) w = .ok v w') :
    Sem.run P (callFunc f args) w = .ok (.value v) w' := by
  obtain ⟨h1, h2, h3, h4⟩ := h
  have h3' : fn.body = none := by simpa using h3
  have h4' : ¬ fn.name = "runtime.NumGoroutine" := by simpa using h4
  simp [callFunc, hf, h1, h2, h3', h4', hr, Result.andThen]
theorem msqrt_run {x r : Nat} (hM : Mach (Ieee.double.sqrt x) r) (hr : r < 18446744073709551616) (w : World) :
    ∃ v w', Sem.run Tryd.prog (callFunc 44 #[.float .f64 x]) w = .ok (.value (.float .f64 v)) w' ∧ v < 18446744073709551616 ∧ oneI (v : Int) = oneI (r : Int) ∧ Below w.heap.size w w' := by
  have e : ∀ w, Sem.run Tryd.prog (Extern.MathSqrt.sqrt #[.float .f64 x]) w = Sem.run Tryd.prog (match FloatKind.f64.format.sqrt x with | some r => pure (.float .f64 r) | none => do pure (.float .f64 (← choose (.nanBits .f64 x x)))) w := fun _ => rfl
  rcases hM with h | ⟨h, h5⟩
  · refine ⟨r, w, ?_, hr, rfl, Below.refl _ _⟩
    have h' : FloatKind.f64.format.sqrt x = some r := h
    refine call_ext Tryd.func44 find_msqrt _ _ ?_
    rw [e, h']
    rfl
  · refine ⟨(Question.nanBits .f64 x x).cut (w.tape w.drawn (.nanBits .f64 x x)), w.drew, ?_, (nan_cut _ _ _).2, one_mach (.inr ⟨(nan_cut _ _ _).1, h5⟩), (Below.refl _ _).drew⟩
    have h' : FloatKind.f64.format.sqrt x = none := h
    refine call_ext Tryd.func44 find_msqrt _ _ ?_
    rw [e, h']
    simp [run_choose_drew, Question.forced, Result.andThen]
theorem mfma_run {x y z r : Nat} (hM : Mach (Ieee.double.fma x y z) r) (hr : r < 18446744073709551616) (w : World) :
    ∃ v w', Sem.run Tryd.prog (callFunc 26 #[.float .f64 x, .float .f64 y, .float .f64 z]) w = .ok (.value (.float .f64 v)) w' ∧ v < 18446744073709551616 ∧ oneI (v : Int) = oneI (r : Int) ∧ Below w.heap.size w w' := by
  have e : ∀ w, Sem.run Tryd.prog (Extern.MathFMA.fma #[.float .f64 x, .float .f64 y, .float .f64 z]) w = Sem.run Tryd.prog (match FloatKind.f64.format.fma x y z with | some r => pure (.float .f64 r) | none => do
      let (a, b) := if Extern.MathFMA.isNaN x then (x, y) else if Extern.MathFMA.isNaN y then (y, z) else (z, z)
      pure (.float .f64 (← choose (.nanBits .f64 a b)))) w := fun _ => rfl
  rcases hM with h | ⟨h, h5⟩
  · refine ⟨r, w, ?_, hr, rfl, Below.refl _ _⟩
    have h' : FloatKind.f64.format.fma x y z = some r := h
    refine call_ext Tryd.func26 find_mfma _ _ ?_
    rw [e, h']
    rfl
  · have h' : FloatKind.f64.format.fma x y z = none := h
    obtain ⟨p, q, hpq⟩ : ∃ p q, (if Extern.MathFMA.isNaN x then (x, y) else if Extern.MathFMA.isNaN y then (y, z) else (z, z)) = (p, q) := ⟨_, _, rfl⟩
    refine ⟨(Question.nanBits .f64 p q).cut (w.tape w.drawn (.nanBits .f64 p q)), w.drew, ?_, (nan_cut _ _ _).2, one_mach (.inr ⟨(nan_cut _ _ _).1, h5⟩), (Below.refl _ _).drew⟩
    refine call_ext Tryd.func26 find_mfma _ _ ?_
    rw [e, h']
    simp only [hpq]
    simp [run_choose_drew, Question.forced, Result.andThen]
theorem msqrt_any {x r : Nat} (hM : Mach (Ieee.double.sqrt x) r) (hr : r < 18446744073709551616) (w : World) :
    Calls Tryd.prog 18 #[.float .f64 x] w fun z w' => ∃ v : Nat, z = .returned (.float .f64 v) ∧ (v < 18446744073709551616 ∧ oneI (v : Int) = oneI (r : Int)) ∧ Below w.heap.size w w' := by
  obtain ⟨v, w', hv, h1, h2, h3⟩ := msqrt_run hM hr w
  go_enter Tryd.func18, Tryd.ntmps18
  go_wp2_with fail
  go_ret
  exact ⟨v, rfl, ⟨h1, h2⟩, h3⟩
set_option maxHeartbeats 4000000 in
set_option maxRecDepth 20000 in
theorem w_SoftAdd (w : World) (hT : Tab w) (x : Nat) (kx : x < 18446744073709551616) (y : Nat) (ky : y < 18446744073709551616) :
    Calls Tryd.prog 3 #[.int .u64 (x : Int), .int .u64 (y : Int)] w fun e w' => e = .returned (.bool true) ∧ Below w.heap.size w w' := by
  have S1 := sAdd_any x y hT kx ky
  have hM := mach_add kx ky
  have hr : addW x y < 18446744073709551616 := addW_lt kx ky
  generalize addW x y = R at S1 hM hr
  have hK := fun wx (hb : Below w.heap.size w wx) => known4_any wx (hT.below hb)
  have HK := Lib.hid (And.intro kx (And.intro ky hr))
  clear kx ky hT
  go_enter Tryd.func3, Tryd.ntmps3
  go_wp2_with fail
  refine (f4_any x _).mono ?_
  rintro e w' ⟨rfl, rfl⟩
  go_wp2_with fail
  refine (f4_any y _).mono ?_
  rintro e w' ⟨rfl, rfl⟩
  go_wp2_with fail
  refine S1.mono ?_
  rintro e w1 ⟨rfl, hb1⟩
  clear S1
  obtain ⟨v, w2, hv, v1, v2, hb2⟩ := run_mach (P := Tryd.prog) (op := .add) (x := x) (y := y) _ rfl hM HK.out.2.2 w1
  have SM := fun w => same4_any R v v2.symm HK.out.2.2 v1 w
  have HB2 := below_step hb1 hb2
  clear v1 v2 hb1 hb2 hM
  go_wp2_with fail
  refine (f4_any x _).mono ?_
  rintro e w' ⟨rfl, rfl⟩
  go_wp2_with fail
  refine (f4_any y _).mono ?_
  rintro e w' ⟨rfl, rfl⟩
  go_wp2_with fail
  refine (SM _).mono ?_
  rintro e w' ⟨rfl, rfl⟩
  go_wp2_with fail
  refine (hK _ HB2).mono ?_
  rintro e w3 ⟨rfl, hb⟩
  go_wp2_with fail
  go_ret
  exact ⟨rfl, below_step HB2 hb⟩
set_option maxHeartbeats 4000000 in
set_option maxRecDepth 20000 in
theorem w_SoftSub (w : World) (hT : Tab w) (x : Nat) (kx : x < 18446744073709551616) (y : Nat) (ky : y < 18446744073709551616) :
    Calls Tryd.prog 6 #[.int .u64 (x : Int), .int .u64 (y : Int)] w fun e w' => e = .returned (.bool true) ∧ Below w.heap.size w w' := by
  have S1 := sSub_any x y hT kx ky
  have hM := sub_one_mach kx ky
  have hr : addW x (sgnW y true) < 18446744073709551616 := addW_lt kx (sgn_lt y true ky)
  generalize addW x (sgnW y true) = R at S1 hM hr
  have hK := fun wx (hb : Below w.heap.size w wx) => known4_any wx (hT.below hb)
  have HK := Lib.hid (And.intro kx (And.intro ky hr))
  clear kx ky hT
  go_enter Tryd.func6, Tryd.ntmps6
  go_wp2_with fail
  refine (f4_any x _).mono ?_
  rintro e w' ⟨rfl, rfl⟩
  go_wp2_with fail
  refine (f4_any y _).mono ?_
  rintro e w' ⟨rfl, rfl⟩
  go_wp2_with fail
  refine S1.mono ?_
  rintro e w1 ⟨rfl, hb1⟩
  clear S1
  obtain ⟨v, w2, hv, v1, v2, hb2⟩ := run_mach (P := Tryd.prog) (op := .sub) (x := x) (y := y) _ rfl hM HK.out.2.2 w1
  have SM := fun w => same4_any R v v2.symm HK.out.2.2 v1 w
  have HB2 := below_step hb1 hb2
  clear v1 v2 hb1 hb2 hM
  go_wp2_with fail
  refine (f4_any x _).mono ?_
  rintro e w' ⟨rfl, rfl⟩
  go_wp2_with fail
  refine (f4_any y _).mono ?_
  rintro e w' ⟨rfl, rfl⟩
  go_wp2_with fail
  refine (SM _).mono ?_
  rintro e w' ⟨rfl, rfl⟩
  go_wp2_with fail
  refine (hK _ HB2).mono ?_
  rintro e w3 ⟨rfl, hb⟩
  go_wp2_with fail
  go_ret
  exact ⟨rfl, below_step HB2 hb⟩
set_option maxHeartbeats 4000000 in
set_option maxRecDepth 20000 in
theorem w_SoftMul (w : World) (hT : Tab w) (x : Nat) (kx : x < 18446744073709551616) (y : Nat) (ky : y < 18446744073709551616) :
    Calls Tryd.prog 4 #[.int .u64 (x : Int), .int .u64 (y : Int)] w fun e w' => e = .returned (.bool true) ∧ Below w.heap.size w w' := by
  have S1 := sMul_any x y hT kx ky
  have hM := mach_mul kx ky
  have hr : mulW x y < 18446744073709551616 := mulW_lt x y
  generalize mulW x y = R at S1 hM hr
  have hK := fun wx (hb : Below w.heap.size w wx) => known4_any wx (hT.below hb)
  have HK := Lib.hid (And.intro kx (And.intro ky hr))
  clear kx ky hT
  go_enter Tryd.func4, Tryd.ntmps4
  go_wp2_with fail
  refine (f4_any x _).mono ?_
  rintro e w' ⟨rfl, rfl⟩
  go_wp2_with fail
  refine (f4_any y _).mono ?_
  rintro e w' ⟨rfl, rfl⟩
  go_wp2_with fail
  refine S1.mono ?_
  rintro e w1 ⟨rfl, hb1⟩
  clear S1
  obtain ⟨v, w2, hv, v1, v2, hb2⟩ := run_mach (P := Tryd.prog) (op := .mul) (x := x) (y := y) _ rfl hM HK.out.2.2 w1
  have SM := fun w => same4_any R v v2.symm HK.out.2.2 v1 w
  have HB2 := below_step hb1 hb2
  clear v1 v2 hb1 hb2 hM
  go_wp2_with fail
  refine (f4_any x _).mono ?_
  rintro e w' ⟨rfl, rfl⟩
  go_wp2_with fail
  refine (f4_any y _).mono ?_
  rintro e w' ⟨rfl, rfl⟩
  go_wp2_with fail
  refine (SM _).mono ?_
  rintro e w' ⟨rfl, rfl⟩
  go_wp2_with fail
  refine (hK _ HB2).mono ?_
  rintro e w3 ⟨rfl, hb⟩
  go_wp2_with fail
  go_ret
  exact ⟨rfl, below_step HB2 hb⟩
set_option maxHeartbeats 4000000 in
set_option maxRecDepth 20000 in
theorem w_SoftDiv (w : World) (hT : Tab w) (x : Nat) (kx : x < 18446744073709551616) (y : Nat) (ky : y < 18446744073709551616) :
    Calls Tryd.prog 5 #[.int .u64 (x : Int), .int .u64 (y : Int)] w fun e w' => e = .returned (.bool true) ∧ Below w.heap.size w w' := by
  have S1 := sDiv_any x y hT kx ky
  have hM := mach_div kx ky
  have hr : divW x y < 18446744073709551616 := divW_lt x y
  generalize divW x y = R at S1 hM hr
  have hK := fun wx (hb : Below w.heap.size w wx) => known4_any wx (hT.below hb)
  have HK := Lib.hid (And.intro kx (And.intro ky hr))
  clear kx ky hT
  go_enter Tryd.func5, Tryd.ntmps5
  go_wp2_with fail
  refine (f4_any x _).mono ?_
  rintro e w' ⟨rfl, rfl⟩
  go_wp2_with fail
  refine (f4_any y _).mono ?_
  rintro e w' ⟨rfl, rfl⟩
  go_wp2_with fail
  refine S1.mono ?_
  rintro e w1 ⟨rfl, hb1⟩
  clear S1
  obtain ⟨v, w2, hv, v1, v2, hb2⟩ := run_mach (P := Tryd.prog) (op := .quo) (x := x) (y := y) _ rfl hM HK.out.2.2 w1
  have SM := fun w => same4_any R v v2.symm HK.out.2.2 v1 w
  have HB2 := below_step hb1 hb2
  clear v1 v2 hb1 hb2 hM
  go_wp2_with fail
  refine (f4_any x _).mono ?_
  rintro e w' ⟨rfl, rfl⟩
  go_wp2_with fail
  refine (f4_any y _).mono ?_
  rintro e w' ⟨rfl, rfl⟩
  go_wp2_with fail
  refine (SM _).mono ?_
  rintro e w' ⟨rfl, rfl⟩
  go_wp2_with fail
  refine (hK _ HB2).mono ?_
  rintro e w3 ⟨rfl, hb⟩
  go_wp2_with fail
  go_ret
  exact ⟨rfl, below_step HB2 hb⟩
set_option maxHeartbeats 4000000 in
set_option maxRecDepth 20000 in
theorem w_SoftSqrt (w : World) (hT : Tab w) (x : Nat) (kx : x < 18446744073709551616) :
    Calls Tryd.prog 7 #[.int .u64 (x : Int)] w fun e w' => e = .returned (.bool true) ∧ Below w.heap.size w w' := by
  have S1 := sSqrt_any x hT kx
  have hM := mach_sqrt kx
  have hr : sqrtW x < 18446744073709551616 := sqrtW_lt kx
  generalize sqrtW x = R at S1 hM hr
  have hK := fun wx (hb : Below w.heap.size w wx) => known4_any wx (hT.below hb)
  have HK := Lib.hid (And.intro kx hr)
  clear kx hT
  go_enter Tryd.func7, Tryd.ntmps7
  go_wp2_with fail
  refine (f4_any x _).mono ?_
  rintro e w' ⟨rfl, rfl⟩
  go_wp2_with fail
  refine S1.mono ?_
  rintro e w1 ⟨rfl, hb1⟩
  clear S1
  go_wp2_with fail
  refine (f4_any x _).mono ?_
  rintro e w' ⟨rfl, rfl⟩
  go_wp2_with fail
  refine (msqrt_any hM HK.out.2 _).mono ?_
  rintro e w2 ⟨v, rfl, ⟨v1, v2⟩, hb2⟩
  have SM := fun w => same4_any R v v2.symm HK.out.2 v1 w
  have HB2 := below_step hb1 hb2
  clear v1 v2 hb1 hb2 hM
  go_wp2_with fail
  refine (SM _).mono ?_
  rintro e w' ⟨rfl, rfl⟩
  go_wp2_with fail
  refine (hK _ HB2).mono ?_
  rintro e w3 ⟨rfl, hb⟩
  go_wp2_with fail
  go_ret
  exact ⟨rfl, below_step HB2 hb⟩
set_option maxHeartbeats 4000000 in
set_option maxRecDepth 20000 in
theorem w_SoftFma (w : World) (hT : Tab w) (x : Nat) (kx : x < 18446744073709551616) (y : Nat) (ky : y < 18446744073709551616) (z : Nat) (kz : z < 18446744073709551616) :
    Calls Tryd.prog 9 #[.int .u64 (x : Int), .int .u64 (y : Int), .int .u64 (z : Int)] w fun e w' => e = .returned (.bool true) ∧ Below w.heap.size w w' := by
  have S1 := sFma_any x y z hT kx ky kz
  have hM := mach_fma kx ky kz
  have hr : fmaW x y z < 18446744073709551616 := fmaW_lt kz
  generalize fmaW x y z = R at S1 hM hr
  have hK := fun wx (hb : Below w.heap.size w wx) => known4_any wx (hT.below hb)
  have HK := Lib.hid (And.intro kx (And.intro ky (And.intro kz hr)))
  clear kx ky kz hT
  go_enter Tryd.func9, Tryd.ntmps9
  go_wp2_with fail
  refine (f4_any x _).mono ?_
  rintro e w' ⟨rfl, rfl⟩
  go_wp2_with fail
  refine (f4_any y _).mono ?_
  rintro e w' ⟨rfl, rfl⟩
  go_wp2_with fail
  refine (f4_any z _).mono ?_
  rintro e w' ⟨rfl, rfl⟩
  go_wp2_with fail
  refine S1.mono ?_
  rintro e w1 ⟨rfl, hb1⟩
  clear S1
  obtain ⟨v, w2, hv, v1, v2, hb2⟩ := mfma_run hM HK.out.2.2.2 w1
  have SM := fun w => same4_any R v v2.symm HK.out.2.2.2 v1 w
  have HB2 := below_step hb1 hb2
  clear v1 v2 hb1 hb2 hM
  go_wp2_with fail
  refine (f4_any x _).mono ?_
  rintro e w' ⟨rfl, rfl⟩
  go_wp2_with fail
  refine (f4_any y _).mono ?_
  rintro e w' ⟨rfl, rfl⟩
  go_wp2_with fail
  refine (f4_any z _).mono ?_
  rintro e w' ⟨rfl, rfl⟩
  go_wp2_with fail
  refine (SM _).mono ?_
  rintro e w' ⟨rfl, rfl⟩
  go_wp2_with fail
  refine (hK _ HB2).mono ?_
  rintro e w3 ⟨rfl, hb⟩
  go_wp2_with fail
  go_ret
  exact ⟨rfl, below_step HB2 hb⟩
end Go.Proofs.YtjlaadadbpffdaaDoor
