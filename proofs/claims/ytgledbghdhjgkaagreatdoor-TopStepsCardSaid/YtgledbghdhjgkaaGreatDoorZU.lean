/-
  A part of the proof that TopSteps answers true for every input that can be read as data.
-/
import Derived.Test.YtgledbghdhjgkaaGreatDoorZR
set_option linter.unusedSimpArgs false
set_option linter.unusedVariables false
namespace Go.Proofs.YtgledbghdhjgkaaGreatDoor
open Go Go.AM Go.AM.W
set_option maxRecDepth 100000
theorem e67:P67.check Tryz.prog exts (eY oz (pieces [P61,P65])) 1000000=true:=by kernel_rfl
theorem e68:P68.check Tryz.prog exts (eY oz (pieces [])) 1000000=true:=by kernel_rfl
theorem e69:P69.check Tryz.prog exts (eY oz (pieces [Zm])) 1000000=true:=by kernel_rfl
theorem e70:P70.check Tryz.prog exts (eY oz (pieces [P1,Zn,Zo,P59,P60,P61,P62,P63,P64,P65,P66,P67,P68,P69])) 1000000=true:=by kernel_rfl
theorem e71:P71.check Tryz.prog exts (eY oz (pieces [Wv])) 1000000=true:=by kernel_rfl
theorem e72:P72.check Tryz.prog exts (eY oz (pieces [])) 1000000=true:=by kernel_rfl
theorem e73:P73.check Tryz.prog exts (eY oz (pieces [Sg,Ww])) 1000000=true:=by kernel_rfl
theorem e74:P74.check Tryz.prog exts (eY oz (pieces [Ww])) 1000000=true:=by kernel_rfl
theorem e75:P75.check Tryz.prog exts (eY oz (pieces [Sd,Wv])) 1000000=true:=by kernel_rfl
end Go.Proofs.YtgledbghdhjgkaaGreatDoor
namespace Go.Proofs.YtgledbghdhjgkaaGreatDoor
open Go Go.AM Go.AM.W
set_option maxRecDepth 100000
theorem e76:P76.check Tryz.prog exts (eY oz (pieces [Zm])) 1000000=true:=by kernel_rfl
theorem e77:P77.check Tryz.prog exts (eY oz (pieces [P1,Zn,Zo,P71,P72,P73,P74,P75,P76])) 1000000=true:=by kernel_rfl
theorem e78:P78.check Tryz.prog exts (eY oz (pieces [P0,P1,P2,Wu,Wx,Zn,P52,Zo,P58,P70,P77])) 1000000=true:=by kernel_rfl
theorem e79:P79.check Tryz.prog exts (eY oz (pieces [])) 1000000=true:=by kernel_rfl
theorem e80:P80.check Tryz.prog exts (eY oz (pieces [])) 1000000=true:=by kernel_rfl
theorem e81:P81.check Tryz.prog exts (eY oz (pieces [P4,P5,P6,P7,P8,P9,P10,P11])) 1000000=true:=by kernel_rfl
theorem e82:P82.check Tryz.prog exts (eY oz (pieces [])) 1000000=true:=by kernel_rfl
end Go.Proofs.YtgledbghdhjgkaaGreatDoor
namespace Go.Proofs.YtgledbghdhjgkaaGreatDoor
open Go Go.AM Go.AM.W
set_option maxRecDepth 100000
theorem e83:P83.check Tryz.prog exts (eY oz (pieces [P1,Sd,P16,Sg,P18,Zl,P20,P22,P80,P82])) 1000000=true:=by kernel_rfl
theorem e84:P84.check Tryz.prog exts (eY oz (pieces [P0,P1,P2,Wu,Wx,P79,P80,P81,P83])) 1000000=true:=by kernel_rfl
theorem e85:P85.check Tryz.prog exts (eY oz (pieces [P27,P28,P29,P45,P46,P47,P78,P84])) 1000000=true:=by kernel_rfl
end Go.Proofs.YtgledbghdhjgkaaGreatDoor
