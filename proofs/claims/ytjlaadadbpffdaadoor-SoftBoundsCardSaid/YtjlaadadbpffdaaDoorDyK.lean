/-
  The law package of layer 3: of, half, text, float, num; the reference's Same.
-/
import Derived.Test.YtjlaadadbpffdaaDoorDyJ
set_option linter.unusedSimpArgs false
set_option linter.unusedVariables false
namespace Go.Plumb
open Go.RowKit
end Go.Plumb
namespace Go.Proofs.YtjlaadadbpffdaaDoor
open Go.RowKit Go.Plumb
section
variable {w : World} {a b : Option Addr} {n c m d : Nat} {l k : List Nat}
end
end Go.Proofs.YtjlaadadbpffdaaDoor
