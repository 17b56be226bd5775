/-
  dyad.Text; the law package's of, half, text, float, num; the reference's Same.
-/
import Derived.Test.YtjlaadadbpffdaaDoorDyI
import Derived.Test.YtjlaadadbpffdaaDoorItoa
set_option linter.unusedSimpArgs false
set_option linter.unusedVariables false
namespace Go.Plumb
open Go.RowKit
/-- The table of the powers of ten lies in the world. -/
def PowT (P : Program) (w : World) : Prop := Lib.TabIs P w "internal/strconv.uint64pow10" .u64 Lib.pow10Tab
theorem below_grow (w : World) (k : Nat) (os : Array Obj) : Below w.heap.size w (Go.Sort.grow (w.drewN k) os) := by
  have h1 : Below w.heap.size w (w.drewN k) := below_drewN (Below.refl _ _) _
  have hh : (w.drewN k).heap = w.heap := by
    clear h1
    induction k with
    | zero => rfl
    | succ k ih => exact ih
  refine ⟨h1.os, h1.tape, h1.output, ?_, fun j hj => ?_⟩
  · show w.heap.size ≤ ((w.drewN k).heap ++ os).size
    rw [hh]; simp
  · show ((w.drewN k).heap ++ os)[j]? = w.heap[j]?
    rw [hh, Array.getElem?_append_left hj]
/-- A dyad's text. -/
def textD (s : Bool) (m : Nat) (e : Int) : List UInt8 := (if s then [45] else []) ++ textN m ++ (if e = 0 then [] else 112 :: Lib.itoa e)
theorem str_app (a b : List UInt8) : (⟨a.toArray⟩ : ByteArray) ++ ⟨b.toArray⟩ = ⟨(a ++ b).toArray⟩ := by
  apply ByteArray.ext
  simp [ByteArray.data_append]
end Go.Plumb
namespace Go.Proofs.YtjlaadadbpffdaaDoor
open Go.RowKit Go.Plumb
section
variable {w : World} {a b : Option Addr} {n c m d : Nat} {l k : List Nat}
end
end Go.Proofs.YtjlaadadbpffdaaDoor
