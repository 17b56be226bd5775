/-
  A part of the proof that TopSteps answers true for every input that can be read as data.
-/
import Derived.Test.YtgledbghdhjgkaaGreatDoorZR
set_option linter.unusedSimpArgs false
set_option linter.unusedVariables false
namespace Go.Proofs.YtgledbghdhjgkaaGreatDoor
open Go Go.AM Go.AM.W
set_option maxRecDepth 100000
theorem e0:P0.check Tryz.prog exts (eY oz (pieces [])) 1000000=true:=by kernel_rfl
theorem e1:P1.check Tryz.prog exts (eY oz (pieces [])) 1000000=true:=by kernel_rfl
theorem e2:P2.check Tryz.prog exts (eY oz (pieces [])) 1000000=true:=by kernel_rfl
theorem e3:P3.check Tryz.prog exts (eY oz (pieces [])) 1000000=true:=by kernel_rfl
theorem e4:P4.check Tryz.prog exts (eY oz (pieces [])) 1000000=true:=by kernel_rfl
theorem e5:P5.check Tryz.prog exts (eY oz (pieces [])) 1000000=true:=by kernel_rfl
theorem e6:P6.check Tryz.prog exts (eY oz (pieces [])) 1000000=true:=by kernel_rfl
theorem e7:P7.check Tryz.prog exts (eY oz (pieces [])) 1000000=true:=by kernel_rfl
theorem e8:P8.check Tryz.prog exts (eY oz (pieces [])) 1000000=true:=by kernel_rfl
theorem e9:P9.check Tryz.prog exts (eY oz (pieces [])) 1000000=true:=by kernel_rfl
theorem e10:P10.check Tryz.prog exts (eY oz (pieces [])) 1000000=true:=by kernel_rfl
theorem e11:P11.check Tryz.prog exts (eY oz (pieces [])) 1000000=true:=by kernel_rfl
theorem e12:P12.check Tryz.prog exts (eY oz (pieces [P4,P5,P6,P7,P8,P9,P10,P11])) 1000000=true:=by kernel_rfl
theorem e13:Wu.check Tryz.prog exts (eY oz (pieces [])) 1000000=true:=by kernel_rfl
theorem e14:Sd.check Tryz.prog exts (eY oz (pieces [])) 1000000=true:=by kernel_rfl
theorem e15:Wv.check Tryz.prog exts (eY oz (pieces [])) 1000000=true:=by kernel_rfl
theorem e16:P16.check Tryz.prog exts (eY oz (pieces [Sd,Wv])) 1000000=true:=by kernel_rfl
theorem e17:Sg.check Tryz.prog exts (eY oz (pieces [])) 1000000=true:=by kernel_rfl
end Go.Proofs.YtgledbghdhjgkaaGreatDoor
namespace Go.Proofs.YtgledbghdhjgkaaGreatDoor
open Go Go.AM Go.AM.W
set_option maxRecDepth 100000
theorem e18:P18.check Tryz.prog exts (eY oz (pieces [Sd,Sg])) 1000000=true:=by kernel_rfl
theorem e19:Zl.check Tryz.prog exts (eY oz (pieces [])) 1000000=true:=by kernel_rfl
theorem e20:P20.check Tryz.prog exts (eY oz (pieces [])) 1000000=true:=by kernel_rfl
theorem e21:Ww.check Tryz.prog exts (eY oz (pieces [])) 1000000=true:=by kernel_rfl
theorem e22:P22.check Tryz.prog exts (eY oz (pieces [Sg,Ww])) 1000000=true:=by kernel_rfl
theorem e23:P23.check Tryz.prog exts (eY oz (pieces [])) 1000000=true:=by kernel_rfl
theorem e24:P24.check Tryz.prog exts (eY oz (pieces [P1,P3,Sd,P16,Sg,P18,Zl,P20,P22,P23])) 1000000=true:=by kernel_rfl
theorem e25:Wx.check Tryz.prog exts (eY oz (pieces [])) 1000000=true:=by kernel_rfl
theorem e26:P26.check Tryz.prog exts (eY oz (pieces [P0,P1,P2,P3,P12,Wu,P24,Wx])) 1000000=true:=by kernel_rfl
theorem e27:P27.check Tryz.prog exts (eY oz (pieces [P26])) 1000000=true:=by kernel_rfl
end Go.Proofs.YtgledbghdhjgkaaGreatDoor
namespace Go.Proofs.YtgledbghdhjgkaaGreatDoor
open Go Go.AM Go.AM.W
set_option maxRecDepth 100000
theorem e28:P28.check Tryz.prog exts (eY oz (pieces [])) 1000000=true:=by kernel_rfl
theorem e29:P29.check Tryz.prog exts (eY oz (pieces [])) 1000000=true:=by kernel_rfl
theorem e30:P30.check Tryz.prog exts (eY oz (pieces [])) 1000000=true:=by kernel_rfl
theorem e31:P31.check Tryz.prog exts (eY oz (pieces [])) 1000000=true:=by kernel_rfl
theorem e32:P32.check Tryz.prog exts (eY oz (pieces [P6,P31])) 1000000=true:=by kernel_rfl
theorem e33:P33.check Tryz.prog exts (eY oz (pieces [])) 1000000=true:=by kernel_rfl
theorem e34:P34.check Tryz.prog exts (eY oz (pieces [])) 1000000=true:=by kernel_rfl
end Go.Proofs.YtgledbghdhjgkaaGreatDoor
