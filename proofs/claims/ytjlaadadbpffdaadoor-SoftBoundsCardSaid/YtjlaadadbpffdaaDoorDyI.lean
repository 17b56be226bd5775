/-
  dyad.Cmp of two numbers that are near or far.
-/
import Derived.Test.YtjlaadadbpffdaaDoorDyH
set_option linter.unusedSimpArgs false
set_option linter.unusedVariables false
namespace Go.Proofs.YtjlaadadbpffdaaDoor
open Go.RowKit Go.Plumb

section
variable {w : World} {a b : Option Addr} {n c m d : Nat} {l k : List Nat}
end
end Go.Proofs.YtjlaadadbpffdaaDoor
