/-
  The shelf's contract of strconv.Itoa at this program (written by the kit's lay-shelf and lay-plain, by names).
-/
import Derived.Shelf.Strconv.Itoa3
import Derived.Test.YtjlaadadbpffdaaDoorProg
set_option linter.unusedSimpArgs false
set_option linter.unusedVariables false
namespace Go.Proofs.YtjlaadadbpffdaaDoor
open Go.Shelf
end Go.Proofs.YtjlaadadbpffdaaDoor
