/-
  NARROWER THAN 'FOR EVERY INPUT', by the rows' own cells (each row's printed sentence says how): SoftAdd: laid · SoftMul: laid · SoftDiv: laid · SoftSub: laid · SoftSqrt: laid · SoftBounds: laid · SoftFma: laid.
  DERIVED. THE GIVEN ROWS OF THIS SEAT. 7 by the template 'for every input the law returns true; each argument reads behind the call as it read before'; 0 by the template 'total and deterministic' (their statements: YtjlaadadbpffdaaDoorTotals.lean).
  GIVEN WITH THE SEED: the statements are not yours to turn. If you find one false, say at which input.
  Laid BY PROGRAM, IN A SANDBOX (cutbox-rows.mjs): the forced cells as the released guide's own fill.sh prints them over the translation 45e20a8cc8fbbcb2… (all of the seat's roots in one cut). By AI agents, Wed Nov 11 2026. No macro, syntax, notation, axiom, sorry.
-/
import Derived.Test.YtjlaadadbpffdaaDoorChecked
import GoSem.Claim
import GoSem.ClaimJoined
import GoSem.ClaimMapViews
import Derived.JoinedTies
import Derived.KernelRfl
namespace Go.Proofs.YtjlaadadbpffdaaDoor
/- THE CELL 'sum', in the pinned program and in every row, IS THE sha256 OF THE DUMP (.gsa) THAT YtjlaadadbpffdaaDoorProg.lean LOADS. Nothing in Lean hashes anything: it is a label: what it is worth is what the hold of that sum in a sandbox is worth. -/
noncomputable def Tryd.pinned : Pinned := { name := "ytjlaadadbpffdaadoor", sum := "45e20a8cc8fbbcb27889cd5188c4b5b572cfd074aa53ba67c3228762d88b6015", checked := Tryd.checked }
namespace Rows
def none {H : Type} : Left H := { results := [], args := [] }

/- WHAT THE LISTED PACKAGE-LEVEL VARIABLES READ AS WHEN THE CALL BEGINS. Each datum BY PROGRAM (the guide's laid-datum.mjs) off the statement by which the dump's own 'gosem.cut.vars' lays the variable. In a bare row this is a premise. The card (YtjlaadadbpffdaaDoorCards.lean) ties it to the program's text. -/
def laid_math_bits_deBruijn64tab {H : Type} : DataW H := .agg [.lit (.int .u8 0), .lit (.int .u8 1), .lit (.int .u8 56), .lit (.int .u8 2), .lit (.int .u8 57), .lit (.int .u8 49), .lit (.int .u8 28), .lit (.int .u8 3), .lit (.int .u8 61), .lit (.int .u8 58), .lit (.int .u8 42), .lit (.int .u8 50), .lit (.int .u8 38), .lit (.int .u8 29), .lit (.int .u8 17), .lit (.int .u8 4), .lit (.int .u8 62), .lit (.int .u8 47), .lit (.int .u8 59), .lit (.int .u8 36), .lit (.int .u8 45), .lit (.int .u8 43), .lit (.int .u8 51), .lit (.int .u8 22), .lit (.int .u8 53), .lit (.int .u8 39), .lit (.int .u8 33), .lit (.int .u8 30), .lit (.int .u8 24), .lit (.int .u8 18), .lit (.int .u8 12), .lit (.int .u8 5), .lit (.int .u8 63), .lit (.int .u8 55), .lit (.int .u8 48), .lit (.int .u8 27), .lit (.int .u8 60), .lit (.int .u8 41), .lit (.int .u8 37), .lit (.int .u8 16), .lit (.int .u8 46), .lit (.int .u8 35), .lit (.int .u8 44), .lit (.int .u8 21), .lit (.int .u8 52), .lit (.int .u8 32), .lit (.int .u8 23), .lit (.int .u8 11), .lit (.int .u8 54), .lit (.int .u8 26), .lit (.int .u8 40), .lit (.int .u8 15), .lit (.int .u8 34), .lit (.int .u8 20), .lit (.int .u8 31), .lit (.int .u8 10), .lit (.int .u8 25), .lit (.int .u8 14), .lit (.int .u8 19), .lit (.int .u8 9), .lit (.int .u8 13), .lit (.int .u8 8), .lit (.int .u8 7), .lit (.int .u8 6)]

/-- 'plumblinelaw04.SoftAdd': WHATEVER THE INPUT: true; the input reads as it did. -/
def softAddSpec : ChangeSpec := { name := "softAdd", fn := fun _ => fun
  | [d1, d2] => { results := [.lit (.bool true)], args := [d1, d2] }
  | _ => none }
def softAddRow : OpenClaim := { program := "ytjlaadadbpffdaadoor", sum := "45e20a8cc8fbbcb27889cd5188c4b5b572cfd074aa53ba67c3228762d88b6015", func := "plumbline/plumblinelaw04.SoftAdd", spec := "softAdd", inPlace := ["math.Float64frombits", "math.Float64bits", "math/bits.Add64", "math/bits.Sub64"], unfollowed := true, recurses := true, named := ["math/bits.deBruijn64tab", "math/bits.divideError", "math/bits.overflowError"], plainKeys := false, apart := false, laid := [("math/bits.deBruijn64tab", laid_math_bits_deBruijn64tab)] }
def SoftAddSaid : Prop := softAddRow.holds Tryd.pinned (OpenSpec.ofChange softAddSpec)

/-- ITS FALSE NEIGHBOUR: 'it returns false'. Refute it at one input. -/
def softAddWrong : ChangeSpec := { name := "softAdd", fn := fun _ => fun
  | [d1, d2] => { results := [.lit (.bool false)], args := [d1, d2] }
  | _ => none }
def SoftAddWrongFalsely : Prop := softAddRow.holds Tryd.pinned (OpenSpec.ofChange softAddWrong)

/-- 'plumblinelaw04.SoftMul': WHATEVER THE INPUT: true; the input reads as it did. -/
def softMulSpec : ChangeSpec := { name := "softMul", fn := fun _ => fun
  | [d1, d2] => { results := [.lit (.bool true)], args := [d1, d2] }
  | _ => none }
def softMulRow : OpenClaim := { program := "ytjlaadadbpffdaadoor", sum := "45e20a8cc8fbbcb27889cd5188c4b5b572cfd074aa53ba67c3228762d88b6015", func := "plumbline/plumblinelaw04.SoftMul", spec := "softMul", inPlace := ["math.Float64frombits", "math.Float64bits", "math/bits.Add64", "math/bits.Sub64"], unfollowed := true, recurses := true, named := ["math/bits.deBruijn64tab", "math/bits.divideError", "math/bits.overflowError"], plainKeys := false, apart := false, laid := [("math/bits.deBruijn64tab", laid_math_bits_deBruijn64tab)] }
def SoftMulSaid : Prop := softMulRow.holds Tryd.pinned (OpenSpec.ofChange softMulSpec)

/-- ITS FALSE NEIGHBOUR: 'it returns false'. Refute it at one input. -/
def softMulWrong : ChangeSpec := { name := "softMul", fn := fun _ => fun
  | [d1, d2] => { results := [.lit (.bool false)], args := [d1, d2] }
  | _ => none }
def SoftMulWrongFalsely : Prop := softMulRow.holds Tryd.pinned (OpenSpec.ofChange softMulWrong)

/-- 'plumblinelaw04.SoftDiv': WHATEVER THE INPUT: true; the input reads as it did. -/
def softDivSpec : ChangeSpec := { name := "softDiv", fn := fun _ => fun
  | [d1, d2] => { results := [.lit (.bool true)], args := [d1, d2] }
  | _ => none }
def softDivRow : OpenClaim := { program := "ytjlaadadbpffdaadoor", sum := "45e20a8cc8fbbcb27889cd5188c4b5b572cfd074aa53ba67c3228762d88b6015", func := "plumbline/plumblinelaw04.SoftDiv", spec := "softDiv", inPlace := ["math.Float64frombits", "math.Float64bits", "math/bits.Add64", "math/bits.Sub64"], unfollowed := true, recurses := true, named := ["math/bits.deBruijn64tab", "math/bits.divideError", "math/bits.overflowError"], plainKeys := false, apart := false, laid := [("math/bits.deBruijn64tab", laid_math_bits_deBruijn64tab)] }
def SoftDivSaid : Prop := softDivRow.holds Tryd.pinned (OpenSpec.ofChange softDivSpec)

/-- ITS FALSE NEIGHBOUR: 'it returns false'. Refute it at one input. -/
def softDivWrong : ChangeSpec := { name := "softDiv", fn := fun _ => fun
  | [d1, d2] => { results := [.lit (.bool false)], args := [d1, d2] }
  | _ => none }
def SoftDivWrongFalsely : Prop := softDivRow.holds Tryd.pinned (OpenSpec.ofChange softDivWrong)

/-- 'plumblinelaw04.SoftSub': WHATEVER THE INPUT: true; the input reads as it did. -/
def softSubSpec : ChangeSpec := { name := "softSub", fn := fun _ => fun
  | [d1, d2] => { results := [.lit (.bool true)], args := [d1, d2] }
  | _ => none }
def softSubRow : OpenClaim := { program := "ytjlaadadbpffdaadoor", sum := "45e20a8cc8fbbcb27889cd5188c4b5b572cfd074aa53ba67c3228762d88b6015", func := "plumbline/plumblinelaw04.SoftSub", spec := "softSub", inPlace := ["math.Float64frombits", "math.Float64bits", "math/bits.Add64", "math/bits.Sub64"], unfollowed := true, recurses := true, named := ["math/bits.deBruijn64tab", "math/bits.divideError", "math/bits.overflowError"], plainKeys := false, apart := false, laid := [("math/bits.deBruijn64tab", laid_math_bits_deBruijn64tab)] }
def SoftSubSaid : Prop := softSubRow.holds Tryd.pinned (OpenSpec.ofChange softSubSpec)

/-- ITS FALSE NEIGHBOUR: 'it returns false'. Refute it at one input. -/
def softSubWrong : ChangeSpec := { name := "softSub", fn := fun _ => fun
  | [d1, d2] => { results := [.lit (.bool false)], args := [d1, d2] }
  | _ => none }
def SoftSubWrongFalsely : Prop := softSubRow.holds Tryd.pinned (OpenSpec.ofChange softSubWrong)

/-- 'plumblinelaw04.SoftSqrt': WHATEVER THE INPUT: true; the input reads as it did. -/
def softSqrtSpec : ChangeSpec := { name := "softSqrt", fn := fun _ => fun
  | [d] => { results := [.lit (.bool true)], args := [d] }
  | _ => none }
def softSqrtRow : OpenClaim := { program := "ytjlaadadbpffdaadoor", sum := "45e20a8cc8fbbcb27889cd5188c4b5b572cfd074aa53ba67c3228762d88b6015", func := "plumbline/plumblinelaw04.SoftSqrt", spec := "softSqrt", inPlace := ["math.Float64frombits", "math.Float64bits", "math/bits.Add64", "math/bits.Sub64", "math.sqrt"], unfollowed := true, recurses := true, named := ["math/bits.deBruijn64tab", "math/bits.divideError", "math/bits.overflowError"], plainKeys := false, apart := false, laid := [("math/bits.deBruijn64tab", laid_math_bits_deBruijn64tab)] }
def SoftSqrtSaid : Prop := softSqrtRow.holds Tryd.pinned (OpenSpec.ofChange softSqrtSpec)

/-- ITS FALSE NEIGHBOUR: 'it returns false'. Refute it at one input. -/
def softSqrtWrong : ChangeSpec := { name := "softSqrt", fn := fun _ => fun
  | [d] => { results := [.lit (.bool false)], args := [d] }
  | _ => none }
def SoftSqrtWrongFalsely : Prop := softSqrtRow.holds Tryd.pinned (OpenSpec.ofChange softSqrtWrong)

/-- 'plumblinelaw04.SoftBounds': WHATEVER THE INPUT: true; the input reads as it did. -/
def softBoundsSpec : ChangeSpec := { name := "softBounds", fn := fun _ => fun
  | [] => { results := [.lit (.bool true)], args := [] }
  | _ => none }
def softBoundsRow : OpenClaim := { program := "ytjlaadadbpffdaadoor", sum := "45e20a8cc8fbbcb27889cd5188c4b5b572cfd074aa53ba67c3228762d88b6015", func := "plumbline/plumblinelaw04.SoftBounds", spec := "softBounds", inPlace := ["math.Float64bits", "math.Float64frombits", "math/bits.Add64", "math/bits.Sub64", "math.sqrt"], unfollowed := true, recurses := true, named := ["math/bits.deBruijn64tab", "math/bits.divideError", "math/bits.overflowError"], plainKeys := false, apart := false, laid := [("math/bits.deBruijn64tab", laid_math_bits_deBruijn64tab)] }
def SoftBoundsSaid : Prop := softBoundsRow.holds Tryd.pinned (OpenSpec.ofChange softBoundsSpec)

/-- ITS FALSE NEIGHBOUR: 'it returns false'. Refute it at one input. -/
def softBoundsWrong : ChangeSpec := { name := "softBounds", fn := fun _ => fun
  | [] => { results := [.lit (.bool false)], args := [] }
  | _ => none }
def SoftBoundsWrongFalsely : Prop := softBoundsRow.holds Tryd.pinned (OpenSpec.ofChange softBoundsWrong)

/-- 'plumblinelaw04.SoftFma': WHATEVER THE INPUT: true; the input reads as it did. -/
def softFmaSpec : ChangeSpec := { name := "softFma", fn := fun _ => fun
  | [d1, d2, d3] => { results := [.lit (.bool true)], args := [d1, d2, d3] }
  | _ => none }
def softFmaRow : OpenClaim := { program := "ytjlaadadbpffdaadoor", sum := "45e20a8cc8fbbcb27889cd5188c4b5b572cfd074aa53ba67c3228762d88b6015", func := "plumbline/plumblinelaw04.SoftFma", spec := "softFma", inPlace := ["math.Float64frombits", "math.Float64bits", "math/bits.Add64", "math/bits.Sub64", "math.FMA"], unfollowed := true, recurses := true, named := ["math/bits.deBruijn64tab", "math/bits.divideError", "math/bits.overflowError"], plainKeys := false, apart := false, laid := [("math/bits.deBruijn64tab", laid_math_bits_deBruijn64tab)] }
def SoftFmaSaid : Prop := softFmaRow.holds Tryd.pinned (OpenSpec.ofChange softFmaSpec)

/-- ITS FALSE NEIGHBOUR: 'it returns false'. Refute it at one input. -/
def softFmaWrong : ChangeSpec := { name := "softFma", fn := fun _ => fun
  | [d1, d2, d3] => { results := [.lit (.bool false)], args := [d1, d2, d3] }
  | _ => none }
def SoftFmaWrongFalsely : Prop := softFmaRow.holds Tryd.pinned (OpenSpec.ofChange softFmaWrong)

/- THE SECOND FORM. 'bulk': how many values and letters a reading holds, each counted each time it is reached (what is shared counts as often as it is met; a slice's spare places count too). A statement '..UptoSaid' is the law's where the arguments, and the package variables that the reading takes, are together of bulk at most 1048576: NARROWER than '..Said'. Prove '..Said' where nothing that the law and all that it calls make is longer than what came in: it says more and counts as full. Else prove '..UptoSaid'. A law counts once. -/
mutual
def uptoBulk {H : Type} : DataW H → Nat
  | .lit (.string bytes) => bytes.length + 1
  | .lit _ => 1
  | .nil => 1
  | .ptr d => uptoBulk d + 1
  | .slice elems spare => uptoBulkAll elems + uptoBulkAll spare + 1
  | .agg parts => uptoBulkAll parts + 1
  | .iface _ d => uptoBulk d + 1
  | .map entries => uptoBulkEntries entries + 1
  | .held _ => 1
def uptoBulkAll {H : Type} : List (DataW H) → Nat
  | [] => 0
  | d :: r => uptoBulk d + uptoBulkAll r
def uptoBulkEntries {H : Type} : List (Lit × DataW H) → Nat
  | [] => 0
  | x :: r => uptoBulkEntry x + uptoBulkEntries r
def uptoBulkEntry {H : Type} : Lit × DataW H → Nat
  | (.string bytes, d) => bytes.length + uptoBulk d + 1
  | (_, d) => uptoBulk d + 1
 end
def uptoSmall : (H : Type) → List (DataW H) → Bool := fun _ ds => decide (uptoBulkAll ds ≤ 1048576)
def OpenSpec.upto (s : _root_.Go.ChangeSpec) : _root_.Go.OpenSpec := { _root_.Go.OpenSpec.ofChange s with cond := some uptoSmall }

/-- 'plumblinelaw04.SoftAdd', WHERE WHAT IT READS IS OF BULK AT MOST 1048576: true; the input reads as it did. -/
def softAddUptoRow : OpenClaim := { program := "ytjlaadadbpffdaadoor", sum := "45e20a8cc8fbbcb27889cd5188c4b5b572cfd074aa53ba67c3228762d88b6015", func := "plumbline/plumblinelaw04.SoftAdd", spec := "softAdd", inPlace := ["math.Float64frombits", "math.Float64bits", "math/bits.Add64", "math/bits.Sub64"], unfollowed := true, recurses := true, named := ["math/bits.deBruijn64tab", "math/bits.divideError", "math/bits.overflowError"], plainKeys := false, apart := false, laid := [("math/bits.deBruijn64tab", laid_math_bits_deBruijn64tab)], narrowed := true }
def SoftAddUptoSaid : Prop := softAddUptoRow.holds Tryd.pinned (OpenSpec.upto softAddSpec)

/-- 'plumblinelaw04.SoftMul', WHERE WHAT IT READS IS OF BULK AT MOST 1048576: true; the input reads as it did. -/
def softMulUptoRow : OpenClaim := { program := "ytjlaadadbpffdaadoor", sum := "45e20a8cc8fbbcb27889cd5188c4b5b572cfd074aa53ba67c3228762d88b6015", func := "plumbline/plumblinelaw04.SoftMul", spec := "softMul", inPlace := ["math.Float64frombits", "math.Float64bits", "math/bits.Add64", "math/bits.Sub64"], unfollowed := true, recurses := true, named := ["math/bits.deBruijn64tab", "math/bits.divideError", "math/bits.overflowError"], plainKeys := false, apart := false, laid := [("math/bits.deBruijn64tab", laid_math_bits_deBruijn64tab)], narrowed := true }
def SoftMulUptoSaid : Prop := softMulUptoRow.holds Tryd.pinned (OpenSpec.upto softMulSpec)

/-- 'plumblinelaw04.SoftDiv', WHERE WHAT IT READS IS OF BULK AT MOST 1048576: true; the input reads as it did. -/
def softDivUptoRow : OpenClaim := { program := "ytjlaadadbpffdaadoor", sum := "45e20a8cc8fbbcb27889cd5188c4b5b572cfd074aa53ba67c3228762d88b6015", func := "plumbline/plumblinelaw04.SoftDiv", spec := "softDiv", inPlace := ["math.Float64frombits", "math.Float64bits", "math/bits.Add64", "math/bits.Sub64"], unfollowed := true, recurses := true, named := ["math/bits.deBruijn64tab", "math/bits.divideError", "math/bits.overflowError"], plainKeys := false, apart := false, laid := [("math/bits.deBruijn64tab", laid_math_bits_deBruijn64tab)], narrowed := true }
def SoftDivUptoSaid : Prop := softDivUptoRow.holds Tryd.pinned (OpenSpec.upto softDivSpec)

/-- 'plumblinelaw04.SoftSub', WHERE WHAT IT READS IS OF BULK AT MOST 1048576: true; the input reads as it did. -/
def softSubUptoRow : OpenClaim := { program := "ytjlaadadbpffdaadoor", sum := "45e20a8cc8fbbcb27889cd5188c4b5b572cfd074aa53ba67c3228762d88b6015", func := "plumbline/plumblinelaw04.SoftSub", spec := "softSub", inPlace := ["math.Float64frombits", "math.Float64bits", "math/bits.Add64", "math/bits.Sub64"], unfollowed := true, recurses := true, named := ["math/bits.deBruijn64tab", "math/bits.divideError", "math/bits.overflowError"], plainKeys := false, apart := false, laid := [("math/bits.deBruijn64tab", laid_math_bits_deBruijn64tab)], narrowed := true }
def SoftSubUptoSaid : Prop := softSubUptoRow.holds Tryd.pinned (OpenSpec.upto softSubSpec)

/-- 'plumblinelaw04.SoftSqrt', WHERE WHAT IT READS IS OF BULK AT MOST 1048576: true; the input reads as it did. -/
def softSqrtUptoRow : OpenClaim := { program := "ytjlaadadbpffdaadoor", sum := "45e20a8cc8fbbcb27889cd5188c4b5b572cfd074aa53ba67c3228762d88b6015", func := "plumbline/plumblinelaw04.SoftSqrt", spec := "softSqrt", inPlace := ["math.Float64frombits", "math.Float64bits", "math/bits.Add64", "math/bits.Sub64", "math.sqrt"], unfollowed := true, recurses := true, named := ["math/bits.deBruijn64tab", "math/bits.divideError", "math/bits.overflowError"], plainKeys := false, apart := false, laid := [("math/bits.deBruijn64tab", laid_math_bits_deBruijn64tab)], narrowed := true }
def SoftSqrtUptoSaid : Prop := softSqrtUptoRow.holds Tryd.pinned (OpenSpec.upto softSqrtSpec)

/-- 'plumblinelaw04.SoftBounds', WHERE WHAT IT READS IS OF BULK AT MOST 1048576: true; the input reads as it did. -/
def softBoundsUptoRow : OpenClaim := { program := "ytjlaadadbpffdaadoor", sum := "45e20a8cc8fbbcb27889cd5188c4b5b572cfd074aa53ba67c3228762d88b6015", func := "plumbline/plumblinelaw04.SoftBounds", spec := "softBounds", inPlace := ["math.Float64bits", "math.Float64frombits", "math/bits.Add64", "math/bits.Sub64", "math.sqrt"], unfollowed := true, recurses := true, named := ["math/bits.deBruijn64tab", "math/bits.divideError", "math/bits.overflowError"], plainKeys := false, apart := false, laid := [("math/bits.deBruijn64tab", laid_math_bits_deBruijn64tab)], narrowed := true }
def SoftBoundsUptoSaid : Prop := softBoundsUptoRow.holds Tryd.pinned (OpenSpec.upto softBoundsSpec)

/-- 'plumblinelaw04.SoftFma', WHERE WHAT IT READS IS OF BULK AT MOST 1048576: true; the input reads as it did. -/
def softFmaUptoRow : OpenClaim := { program := "ytjlaadadbpffdaadoor", sum := "45e20a8cc8fbbcb27889cd5188c4b5b572cfd074aa53ba67c3228762d88b6015", func := "plumbline/plumblinelaw04.SoftFma", spec := "softFma", inPlace := ["math.Float64frombits", "math.Float64bits", "math/bits.Add64", "math/bits.Sub64", "math.FMA"], unfollowed := true, recurses := true, named := ["math/bits.deBruijn64tab", "math/bits.divideError", "math/bits.overflowError"], plainKeys := false, apart := false, laid := [("math/bits.deBruijn64tab", laid_math_bits_deBruijn64tab)], narrowed := true }
def SoftFmaUptoSaid : Prop := softFmaUptoRow.holds Tryd.pinned (OpenSpec.upto softFmaSpec)

end Rows
end Go.Proofs.YtjlaadadbpffdaaDoor
