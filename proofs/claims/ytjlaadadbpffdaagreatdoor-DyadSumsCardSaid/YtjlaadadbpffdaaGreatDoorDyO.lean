/-
  Boxes filled anew, from below and from aside.
-/
import Derived.Test.YtjlaadadbpffdaaGreatDoorDyP
import Derived.Test.YtjlaadadbpffdaaGreatDoorDyN
set_option linter.unusedSimpArgs false
set_option linter.unusedVariables false
namespace Go.Plumb
open Go.RowKit
theorem Below.fill3 {B : Nat} {w w1 : World} (h : Below B w w1) {k : Nat} (hk : B ≤ k) (x y z : Value) : Below B w (((w1.setCell ⟨k, 0, none⟩ x).setCell ⟨k, 1, none⟩ y).setCell ⟨k, 2, none⟩ z) :=
  ((h.setCell (p := ⟨k, 0, none⟩) hk x).setCell (p := ⟨k, 1, none⟩) hk y).setCell (p := ⟨k, 2, none⟩) hk z
theorem Boxed3.other3 {w : World} {b k : Nat} {s : Bool} {a : Option Addr} {n c : Nat} {e : Int} (h : Boxed3 w b s a n c e) (hk : k ≠ b) (x y z : Value) : Boxed3 (((w.setCell ⟨k, 0, none⟩ x).setCell ⟨k, 1, none⟩ y).setCell ⟨k, 2, none⟩ z) b s a n c e := ((h.other hk 0 x).other hk 1 y).other hk 2 z
end Go.Plumb
