/-
  A part of the proof that TopSteps answers true for every input that can be read as data.
-/
import Derived.Test.YtgledbghdhjgkaaGreatDoorZR
set_option linter.unusedSimpArgs false
set_option linter.unusedVariables false
namespace Go.Proofs.YtgledbghdhjgkaaGreatDoor
open Go Go.AM Go.AM.W
set_option maxRecDepth 100000
theorem e35:P35.check Tryz.prog exts (eY oz (pieces [])) 1000000=true:=by kernel_rfl
theorem e36:P36.check Tryz.prog exts (eY oz (pieces [P4,P5,P30,P32,P33,P34,P35])) 1000000=true:=by kernel_rfl
theorem e37:P37.check Tryz.prog exts (eY oz (pieces [Wv])) 1000000=true:=by kernel_rfl
theorem e38:P38.check Tryz.prog exts (eY oz (pieces [Sd])) 1000000=true:=by kernel_rfl
theorem e39:P39.check Tryz.prog exts (eY oz (pieces [Ww])) 1000000=true:=by kernel_rfl
theorem e40:P40.check Tryz.prog exts (eY oz (pieces [])) 1000000=true:=by kernel_rfl
theorem e41:P41.check Tryz.prog exts (eY oz (pieces [Sg])) 1000000=true:=by kernel_rfl
theorem e42:Zm.check Tryz.prog exts (eY oz (pieces [])) 1000000=true:=by kernel_rfl
theorem e43:P43.check Tryz.prog exts (eY oz (pieces [Zm])) 1000000=true:=by kernel_rfl
end Go.Proofs.YtgledbghdhjgkaaGreatDoor
namespace Go.Proofs.YtgledbghdhjgkaaGreatDoor
open Go Go.AM Go.AM.W
set_option maxRecDepth 100000
theorem e44:P44.check Tryz.prog exts (eY oz (pieces [P1,Zl,P30,P37,P38,P39,P40,P41,P43])) 1000000=true:=by kernel_rfl
theorem e45:P45.check Tryz.prog exts (eY oz (pieces [P0,P1,P2,Wu,Wx,P36,P44])) 1000000=true:=by kernel_rfl
theorem e46:P46.check Tryz.prog exts (eY oz (pieces [P26])) 1000000=true:=by kernel_rfl
theorem e47:P47.check Tryz.prog exts (eY oz (pieces [])) 1000000=true:=by kernel_rfl
theorem e48:Zn.check Tryz.prog exts (eY oz (pieces [])) 1000000=true:=by kernel_rfl
theorem e49:P49.check Tryz.prog exts (eY oz (pieces [P6])) 1000000=true:=by kernel_rfl
theorem e50:P50.check Tryz.prog exts (eY oz (pieces [])) 1000000=true:=by kernel_rfl
theorem e51:P51.check Tryz.prog exts (eY oz (pieces [])) 1000000=true:=by kernel_rfl
end Go.Proofs.YtgledbghdhjgkaaGreatDoor
namespace Go.Proofs.YtgledbghdhjgkaaGreatDoor
open Go Go.AM Go.AM.W
set_option maxRecDepth 100000
theorem e52:P52.check Tryz.prog exts (eY oz (pieces [P4,P5,P6,P7,P8,P49,P50,P51])) 1000000=true:=by kernel_rfl
theorem e53:Zo.check Tryz.prog exts (eY oz (pieces [])) 1000000=true:=by kernel_rfl
theorem e54:P54.check Tryz.prog exts (eY oz (pieces [])) 1000000=true:=by kernel_rfl
theorem e55:P55.check Tryz.prog exts (eY oz (pieces [])) 1000000=true:=by kernel_rfl
theorem e56:P56.check Tryz.prog exts (eY oz (pieces [])) 1000000=true:=by kernel_rfl
theorem e57:P57.check Tryz.prog exts (eY oz (pieces [])) 1000000=true:=by kernel_rfl
theorem e58:P58.check Tryz.prog exts (eY oz (pieces [P31,P54,P55,P56,P57])) 1000000=true:=by kernel_rfl
theorem e59:P59.check Tryz.prog exts (eY oz (pieces [])) 1000000=true:=by kernel_rfl
theorem e60:P60.check Tryz.prog exts (eY oz (pieces [])) 1000000=true:=by kernel_rfl
theorem e61:P61.check Tryz.prog exts (eY oz (pieces [])) 1000000=true:=by kernel_rfl
theorem e62:P62.check Tryz.prog exts (eY oz (pieces [])) 1000000=true:=by kernel_rfl
theorem e63:P63.check Tryz.prog exts (eY oz (pieces [P59,P60])) 1000000=true:=by kernel_rfl
theorem e64:P64.check Tryz.prog exts (eY oz (pieces [])) 1000000=true:=by kernel_rfl
theorem e65:P65.check Tryz.prog exts (eY oz (pieces [])) 1000000=true:=by kernel_rfl
theorem e66:P66.check Tryz.prog exts (eY oz (pieces [])) 1000000=true:=by kernel_rfl
end Go.Proofs.YtgledbghdhjgkaaGreatDoor
