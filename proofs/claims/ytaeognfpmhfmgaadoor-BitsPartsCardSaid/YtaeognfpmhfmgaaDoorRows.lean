/-
  NARROWER THAN 'FOR EVERY INPUT', by the rows' own cells (each row's printed sentence says how): BitsFloat: laid · BitsParts: laid · BitsExact: laid · BitsRound: laid · BitsScale: laid · BitsCompare: laid · BitsLog: laid · BitsMeans: laid · BitsClass: laid · BitsTexts: laid · BitsBounds: laid.
  DERIVED. THE GIVEN ROWS OF THIS SEAT. 11 by the template 'for every input the law returns true; each argument reads behind the call as it read before'; 0 by the template 'total and deterministic' (their statements: YtaeognfpmhfmgaaDoorTotals.lean).
  GIVEN WITH THE SEED: the statements are not yours to turn. If you find one false, say at which input.
  Laid BY PROGRAM, IN A SANDBOX (cutbox-rows.mjs): the forced cells as the released guide's own fill.sh prints them over the translation 0eaf09dd2c23f7c0… (all of the seat's roots in one cut). By AI agents, Wed Nov 11 2026. No macro, syntax, notation, axiom, sorry.
-/
import Derived.Test.YtaeognfpmhfmgaaDoorChecked
import GoSem.Claim
import GoSem.ClaimJoined
import GoSem.ClaimMapViews
import Derived.JoinedTies
import Derived.KernelRfl
namespace Go.Proofs.YtaeognfpmhfmgaaDoor
/- THE CELL 'sum', in the pinned program and in every row, IS THE sha256 OF THE DUMP (.gsa) THAT YtaeognfpmhfmgaaDoorProg.lean LOADS. Nothing in Lean hashes anything: it is a label: what it is worth is what the hold of that sum in a sandbox is worth. -/
noncomputable def Tryd.pinned : Pinned := { name := "ytaeognfpmhfmgaadoor", sum := "0eaf09dd2c23f7c004031d4df7cb99cac14fd01d5ab897711b2adafbd84453a8", checked := Tryd.checked }
namespace Rows
def none {H : Type} : Left H := { results := [], args := [] }

/- WHAT THE LISTED PACKAGE-LEVEL VARIABLES READ AS WHEN THE CALL BEGINS. Each datum BY PROGRAM (the guide's laid-datum.mjs) off the statement by which the dump's own 'gosem.cut.vars' lays the variable. In a bare row this is a premise. The card (YtaeognfpmhfmgaaDoorCards.lean) ties it to the program's text. -/
def laid_math_bits_deBruijn64tab {H : Type} : DataW H := .agg [.lit (.int .u8 0), .lit (.int .u8 1), .lit (.int .u8 56), .lit (.int .u8 2), .lit (.int .u8 57), .lit (.int .u8 49), .lit (.int .u8 28), .lit (.int .u8 3), .lit (.int .u8 61), .lit (.int .u8 58), .lit (.int .u8 42), .lit (.int .u8 50), .lit (.int .u8 38), .lit (.int .u8 29), .lit (.int .u8 17), .lit (.int .u8 4), .lit (.int .u8 62), .lit (.int .u8 47), .lit (.int .u8 59), .lit (.int .u8 36), .lit (.int .u8 45), .lit (.int .u8 43), .lit (.int .u8 51), .lit (.int .u8 22), .lit (.int .u8 53), .lit (.int .u8 39), .lit (.int .u8 33), .lit (.int .u8 30), .lit (.int .u8 24), .lit (.int .u8 18), .lit (.int .u8 12), .lit (.int .u8 5), .lit (.int .u8 63), .lit (.int .u8 55), .lit (.int .u8 48), .lit (.int .u8 27), .lit (.int .u8 60), .lit (.int .u8 41), .lit (.int .u8 37), .lit (.int .u8 16), .lit (.int .u8 46), .lit (.int .u8 35), .lit (.int .u8 44), .lit (.int .u8 21), .lit (.int .u8 52), .lit (.int .u8 32), .lit (.int .u8 23), .lit (.int .u8 11), .lit (.int .u8 54), .lit (.int .u8 26), .lit (.int .u8 40), .lit (.int .u8 15), .lit (.int .u8 34), .lit (.int .u8 20), .lit (.int .u8 31), .lit (.int .u8 10), .lit (.int .u8 25), .lit (.int .u8 14), .lit (.int .u8 19), .lit (.int .u8 9), .lit (.int .u8 13), .lit (.int .u8 8), .lit (.int .u8 7), .lit (.int .u8 6)]

/-- 'plumblinelaw01.BitsFloat': WHATEVER THE INPUT: true; the input reads as it did. -/
def bitsFloatSpec : ChangeSpec := { name := "bitsFloat", fn := fun _ => fun
  | [d] => { results := [.lit (.bool true)], args := [d] }
  | _ => none }
def bitsFloatRow : OpenClaim := { program := "ytaeognfpmhfmgaadoor", sum := "0eaf09dd2c23f7c004031d4df7cb99cac14fd01d5ab897711b2adafbd84453a8", func := "plumbline/plumblinelaw01.BitsFloat", spec := "bitsFloat", inPlace := ["math.Float64frombits", "math.Float64bits"], unfollowed := true, recurses := true, named := ["math/bits.deBruijn64tab"], apart := false, laid := [("math/bits.deBruijn64tab", laid_math_bits_deBruijn64tab)] }
def BitsFloatSaid : Prop := bitsFloatRow.holds Tryd.pinned (OpenSpec.ofChange bitsFloatSpec)

/-- ITS FALSE NEIGHBOUR: 'it returns false'. Refute it at one input. -/
def bitsFloatWrong : ChangeSpec := { name := "bitsFloat", fn := fun _ => fun
  | [d] => { results := [.lit (.bool false)], args := [d] }
  | _ => none }
def BitsFloatWrongFalsely : Prop := bitsFloatRow.holds Tryd.pinned (OpenSpec.ofChange bitsFloatWrong)

/-- 'plumblinelaw01.BitsParts': WHATEVER THE INPUT: true; the input reads as it did. -/
def bitsPartsSpec : ChangeSpec := { name := "bitsParts", fn := fun _ => fun
  | [d] => { results := [.lit (.bool true)], args := [d] }
  | _ => none }
def bitsPartsRow : OpenClaim := { program := "ytaeognfpmhfmgaadoor", sum := "0eaf09dd2c23f7c004031d4df7cb99cac14fd01d5ab897711b2adafbd84453a8", func := "plumbline/plumblinelaw01.BitsParts", spec := "bitsParts", inPlace := ["math.Float64bits", "math.Float64frombits"], unfollowed := true, recurses := true, named := ["math/bits.deBruijn64tab"], apart := false, laid := [("math/bits.deBruijn64tab", laid_math_bits_deBruijn64tab)] }
def BitsPartsSaid : Prop := bitsPartsRow.holds Tryd.pinned (OpenSpec.ofChange bitsPartsSpec)

/-- ITS FALSE NEIGHBOUR: 'it returns false'. Refute it at one input. -/
def bitsPartsWrong : ChangeSpec := { name := "bitsParts", fn := fun _ => fun
  | [d] => { results := [.lit (.bool false)], args := [d] }
  | _ => none }
def BitsPartsWrongFalsely : Prop := bitsPartsRow.holds Tryd.pinned (OpenSpec.ofChange bitsPartsWrong)

/-- 'plumblinelaw01.BitsExact': WHATEVER THE INPUT: true; the input reads as it did. -/
def bitsExactSpec : ChangeSpec := { name := "bitsExact", fn := fun _ => fun
  | [d] => { results := [.lit (.bool true)], args := [d] }
  | _ => none }
def bitsExactRow : OpenClaim := { program := "ytaeognfpmhfmgaadoor", sum := "0eaf09dd2c23f7c004031d4df7cb99cac14fd01d5ab897711b2adafbd84453a8", func := "plumbline/plumblinelaw01.BitsExact", spec := "bitsExact", inPlace := ["math.Float64bits", "math.Float64frombits"], unfollowed := true, recurses := true, named := ["math/bits.deBruijn64tab"], apart := false, laid := [("math/bits.deBruijn64tab", laid_math_bits_deBruijn64tab)] }
def BitsExactSaid : Prop := bitsExactRow.holds Tryd.pinned (OpenSpec.ofChange bitsExactSpec)

/-- ITS FALSE NEIGHBOUR: 'it returns false'. Refute it at one input. -/
def bitsExactWrong : ChangeSpec := { name := "bitsExact", fn := fun _ => fun
  | [d] => { results := [.lit (.bool false)], args := [d] }
  | _ => none }
def BitsExactWrongFalsely : Prop := bitsExactRow.holds Tryd.pinned (OpenSpec.ofChange bitsExactWrong)

/-- 'plumblinelaw01.BitsRound': WHATEVER THE INPUT: true; the input reads as it did. -/
def bitsRoundSpec : ChangeSpec := { name := "bitsRound", fn := fun _ => fun
  | [d1, d2] => { results := [.lit (.bool true)], args := [d1, d2] }
  | _ => none }
def bitsRoundRow : OpenClaim := { program := "ytaeognfpmhfmgaadoor", sum := "0eaf09dd2c23f7c004031d4df7cb99cac14fd01d5ab897711b2adafbd84453a8", func := "plumbline/plumblinelaw01.BitsRound", spec := "bitsRound", inPlace := ["math.Float64bits", "math.Float64frombits"], unfollowed := true, recurses := true, named := ["math/bits.deBruijn64tab"], apart := false, laid := [("math/bits.deBruijn64tab", laid_math_bits_deBruijn64tab)] }
def BitsRoundSaid : Prop := bitsRoundRow.holds Tryd.pinned (OpenSpec.ofChange bitsRoundSpec)

/-- ITS FALSE NEIGHBOUR: 'it returns false'. Refute it at one input. -/
def bitsRoundWrong : ChangeSpec := { name := "bitsRound", fn := fun _ => fun
  | [d1, d2] => { results := [.lit (.bool false)], args := [d1, d2] }
  | _ => none }
def BitsRoundWrongFalsely : Prop := bitsRoundRow.holds Tryd.pinned (OpenSpec.ofChange bitsRoundWrong)

/-- 'plumblinelaw01.BitsScale': WHATEVER THE INPUT: true; the input reads as it did. -/
def bitsScaleSpec : ChangeSpec := { name := "bitsScale", fn := fun _ => fun
  | [d1, d2] => { results := [.lit (.bool true)], args := [d1, d2] }
  | _ => none }
def bitsScaleRow : OpenClaim := { program := "ytaeognfpmhfmgaadoor", sum := "0eaf09dd2c23f7c004031d4df7cb99cac14fd01d5ab897711b2adafbd84453a8", func := "plumbline/plumblinelaw01.BitsScale", spec := "bitsScale", inPlace := ["math.Float64frombits", "math.Float64bits"], unfollowed := true, recurses := true, named := ["math/bits.deBruijn64tab"], apart := false, laid := [("math/bits.deBruijn64tab", laid_math_bits_deBruijn64tab)] }
def BitsScaleSaid : Prop := bitsScaleRow.holds Tryd.pinned (OpenSpec.ofChange bitsScaleSpec)

/-- ITS FALSE NEIGHBOUR: 'it returns false'. Refute it at one input. -/
def bitsScaleWrong : ChangeSpec := { name := "bitsScale", fn := fun _ => fun
  | [d1, d2] => { results := [.lit (.bool false)], args := [d1, d2] }
  | _ => none }
def BitsScaleWrongFalsely : Prop := bitsScaleRow.holds Tryd.pinned (OpenSpec.ofChange bitsScaleWrong)

/-- 'plumblinelaw01.BitsCompare': WHATEVER THE INPUT: true; the input reads as it did. -/
def bitsCompareSpec : ChangeSpec := { name := "bitsCompare", fn := fun _ => fun
  | [d1, d2] => { results := [.lit (.bool true)], args := [d1, d2] }
  | _ => none }
def bitsCompareRow : OpenClaim := { program := "ytaeognfpmhfmgaadoor", sum := "0eaf09dd2c23f7c004031d4df7cb99cac14fd01d5ab897711b2adafbd84453a8", func := "plumbline/plumblinelaw01.BitsCompare", spec := "bitsCompare", inPlace := ["math.Float64bits", "math.Float64frombits"], unfollowed := true, recurses := true, named := ["math/bits.deBruijn64tab"], apart := false, laid := [("math/bits.deBruijn64tab", laid_math_bits_deBruijn64tab)] }
def BitsCompareSaid : Prop := bitsCompareRow.holds Tryd.pinned (OpenSpec.ofChange bitsCompareSpec)

/-- ITS FALSE NEIGHBOUR: 'it returns false'. Refute it at one input. -/
def bitsCompareWrong : ChangeSpec := { name := "bitsCompare", fn := fun _ => fun
  | [d1, d2] => { results := [.lit (.bool false)], args := [d1, d2] }
  | _ => none }
def BitsCompareWrongFalsely : Prop := bitsCompareRow.holds Tryd.pinned (OpenSpec.ofChange bitsCompareWrong)

/-- 'plumblinelaw01.BitsLog': WHATEVER THE INPUT: true; the input reads as it did. -/
def bitsLogSpec : ChangeSpec := { name := "bitsLog", fn := fun _ => fun
  | [d] => { results := [.lit (.bool true)], args := [d] }
  | _ => none }
def bitsLogRow : OpenClaim := { program := "ytaeognfpmhfmgaadoor", sum := "0eaf09dd2c23f7c004031d4df7cb99cac14fd01d5ab897711b2adafbd84453a8", func := "plumbline/plumblinelaw01.BitsLog", spec := "bitsLog", inPlace := ["math.Float64bits", "math.Float64frombits"], unfollowed := true, recurses := true, named := ["math/bits.deBruijn64tab"], apart := false, laid := [("math/bits.deBruijn64tab", laid_math_bits_deBruijn64tab)] }
def BitsLogSaid : Prop := bitsLogRow.holds Tryd.pinned (OpenSpec.ofChange bitsLogSpec)

/-- ITS FALSE NEIGHBOUR: 'it returns false'. Refute it at one input. -/
def bitsLogWrong : ChangeSpec := { name := "bitsLog", fn := fun _ => fun
  | [d] => { results := [.lit (.bool false)], args := [d] }
  | _ => none }
def BitsLogWrongFalsely : Prop := bitsLogRow.holds Tryd.pinned (OpenSpec.ofChange bitsLogWrong)

/-- 'plumblinelaw01.BitsMeans': WHATEVER THE INPUT: true; the input reads as it did. -/
def bitsMeansSpec : ChangeSpec := { name := "bitsMeans", fn := fun _ => fun
  | [d1, d2, d3, d4, d5] => { results := [.lit (.bool true)], args := [d1, d2, d3, d4, d5] }
  | _ => none }
def bitsMeansRow : OpenClaim := { program := "ytaeognfpmhfmgaadoor", sum := "0eaf09dd2c23f7c004031d4df7cb99cac14fd01d5ab897711b2adafbd84453a8", func := "plumbline/plumblinelaw01.BitsMeans", spec := "bitsMeans", inPlace := ["math.Float64bits", "math.Float64frombits"], unfollowed := true, recurses := true, named := ["math/bits.deBruijn64tab"], apart := false, laid := [("math/bits.deBruijn64tab", laid_math_bits_deBruijn64tab)] }
def BitsMeansSaid : Prop := bitsMeansRow.holds Tryd.pinned (OpenSpec.ofChange bitsMeansSpec)

/-- ITS FALSE NEIGHBOUR: 'it returns false'. Refute it at one input. -/
def bitsMeansWrong : ChangeSpec := { name := "bitsMeans", fn := fun _ => fun
  | [d1, d2, d3, d4, d5] => { results := [.lit (.bool false)], args := [d1, d2, d3, d4, d5] }
  | _ => none }
def BitsMeansWrongFalsely : Prop := bitsMeansRow.holds Tryd.pinned (OpenSpec.ofChange bitsMeansWrong)

/-- 'plumblinelaw01.BitsClass': WHATEVER THE INPUT: true; the input reads as it did. -/
def bitsClassSpec : ChangeSpec := { name := "bitsClass", fn := fun _ => fun
  | [d] => { results := [.lit (.bool true)], args := [d] }
  | _ => none }
def bitsClassRow : OpenClaim := { program := "ytaeognfpmhfmgaadoor", sum := "0eaf09dd2c23f7c004031d4df7cb99cac14fd01d5ab897711b2adafbd84453a8", func := "plumbline/plumblinelaw01.BitsClass", spec := "bitsClass", inPlace := ["math.Float64bits", "math.Float64frombits"], unfollowed := true, recurses := true, named := ["math/bits.deBruijn64tab"], apart := false, laid := [("math/bits.deBruijn64tab", laid_math_bits_deBruijn64tab)] }
def BitsClassSaid : Prop := bitsClassRow.holds Tryd.pinned (OpenSpec.ofChange bitsClassSpec)

/-- ITS FALSE NEIGHBOUR: 'it returns false'. Refute it at one input. -/
def bitsClassWrong : ChangeSpec := { name := "bitsClass", fn := fun _ => fun
  | [d] => { results := [.lit (.bool false)], args := [d] }
  | _ => none }
def BitsClassWrongFalsely : Prop := bitsClassRow.holds Tryd.pinned (OpenSpec.ofChange bitsClassWrong)

/-- 'plumblinelaw01.BitsTexts': WHATEVER THE INPUT: true; the input reads as it did. -/
def bitsTextsSpec : ChangeSpec := { name := "bitsTexts", fn := fun _ => fun
  | [d1, d2] => { results := [.lit (.bool true)], args := [d1, d2] }
  | _ => none }
def bitsTextsRow : OpenClaim := { program := "ytaeognfpmhfmgaadoor", sum := "0eaf09dd2c23f7c004031d4df7cb99cac14fd01d5ab897711b2adafbd84453a8", func := "plumbline/plumblinelaw01.BitsTexts", spec := "bitsTexts", inPlace := ["math.Float64bits", "math.Float64frombits"], unfollowed := true, recurses := true, named := ["math/bits.deBruijn64tab"], apart := false, laid := [("math/bits.deBruijn64tab", laid_math_bits_deBruijn64tab)] }
def BitsTextsSaid : Prop := bitsTextsRow.holds Tryd.pinned (OpenSpec.ofChange bitsTextsSpec)

/-- ITS FALSE NEIGHBOUR: 'it returns false'. Refute it at one input. -/
def bitsTextsWrong : ChangeSpec := { name := "bitsTexts", fn := fun _ => fun
  | [d1, d2] => { results := [.lit (.bool false)], args := [d1, d2] }
  | _ => none }
def BitsTextsWrongFalsely : Prop := bitsTextsRow.holds Tryd.pinned (OpenSpec.ofChange bitsTextsWrong)

/-- 'plumblinelaw01.BitsBounds': WHATEVER THE INPUT: true; the input reads as it did. -/
def bitsBoundsSpec : ChangeSpec := { name := "bitsBounds", fn := fun _ => fun
  | [] => { results := [.lit (.bool true)], args := [] }
  | _ => none }
def bitsBoundsRow : OpenClaim := { program := "ytaeognfpmhfmgaadoor", sum := "0eaf09dd2c23f7c004031d4df7cb99cac14fd01d5ab897711b2adafbd84453a8", func := "plumbline/plumblinelaw01.BitsBounds", spec := "bitsBounds", inPlace := ["math.Float64bits", "math.Float64frombits"], unfollowed := true, recurses := true, named := ["math/bits.deBruijn64tab"], apart := false, laid := [("math/bits.deBruijn64tab", laid_math_bits_deBruijn64tab)] }
def BitsBoundsSaid : Prop := bitsBoundsRow.holds Tryd.pinned (OpenSpec.ofChange bitsBoundsSpec)

/-- ITS FALSE NEIGHBOUR: 'it returns false'. Refute it at one input. -/
def bitsBoundsWrong : ChangeSpec := { name := "bitsBounds", fn := fun _ => fun
  | [] => { results := [.lit (.bool false)], args := [] }
  | _ => none }
def BitsBoundsWrongFalsely : Prop := bitsBoundsRow.holds Tryd.pinned (OpenSpec.ofChange bitsBoundsWrong)

/- THE SECOND FORM. 'bulk': how many values and letters a reading holds, each counted each time it is reached (what is shared counts as often as it is met; a slice's spare places count too). A statement '..UptoSaid' is the law's where the arguments, and the package variables that the reading takes, are together of bulk at most 1048576: NARROWER than '..Said'. Prove '..Said' where nothing that the law and all that it calls make is longer than what came in: it says more and counts as full. Else prove '..UptoSaid'. A law counts once. -/
mutual
def uptoBulk {H : Type} : DataW H → Nat
  | .lit (.string bytes) => bytes.length + 1
  | .lit _ => 1
  | .nil => 1
  | .ptr d => uptoBulk d + 1
  | .slice elems spare => uptoBulkAll elems + uptoBulkAll spare + 1
  | .agg parts => uptoBulkAll parts + 1
  | .iface _ d => uptoBulk d + 1
  | .map entries => uptoBulkEntries entries + 1
  | .held _ => 1
def uptoBulkAll {H : Type} : List (DataW H) → Nat
  | [] => 0
  | d :: r => uptoBulk d + uptoBulkAll r
def uptoBulkEntries {H : Type} : List (Lit × DataW H) → Nat
  | [] => 0
  | x :: r => uptoBulkEntry x + uptoBulkEntries r
def uptoBulkEntry {H : Type} : Lit × DataW H → Nat
  | (.string bytes, d) => bytes.length + uptoBulk d + 1
  | (_, d) => uptoBulk d + 1
 end
def uptoSmall : (H : Type) → List (DataW H) → Bool := fun _ ds => decide (uptoBulkAll ds ≤ 1048576)
def OpenSpec.upto (s : _root_.Go.ChangeSpec) : _root_.Go.OpenSpec := { _root_.Go.OpenSpec.ofChange s with cond := some uptoSmall }

/-- 'plumblinelaw01.BitsFloat', WHERE WHAT IT READS IS OF BULK AT MOST 1048576: true; the input reads as it did. -/
def bitsFloatUptoRow : OpenClaim := { program := "ytaeognfpmhfmgaadoor", sum := "0eaf09dd2c23f7c004031d4df7cb99cac14fd01d5ab897711b2adafbd84453a8", func := "plumbline/plumblinelaw01.BitsFloat", spec := "bitsFloat", inPlace := ["math.Float64frombits", "math.Float64bits"], unfollowed := true, recurses := true, named := ["math/bits.deBruijn64tab"], apart := false, laid := [("math/bits.deBruijn64tab", laid_math_bits_deBruijn64tab)], narrowed := true }
def BitsFloatUptoSaid : Prop := bitsFloatUptoRow.holds Tryd.pinned (OpenSpec.upto bitsFloatSpec)

/-- 'plumblinelaw01.BitsParts', WHERE WHAT IT READS IS OF BULK AT MOST 1048576: true; the input reads as it did. -/
def bitsPartsUptoRow : OpenClaim := { program := "ytaeognfpmhfmgaadoor", sum := "0eaf09dd2c23f7c004031d4df7cb99cac14fd01d5ab897711b2adafbd84453a8", func := "plumbline/plumblinelaw01.BitsParts", spec := "bitsParts", inPlace := ["math.Float64bits", "math.Float64frombits"], unfollowed := true, recurses := true, named := ["math/bits.deBruijn64tab"], apart := false, laid := [("math/bits.deBruijn64tab", laid_math_bits_deBruijn64tab)], narrowed := true }
def BitsPartsUptoSaid : Prop := bitsPartsUptoRow.holds Tryd.pinned (OpenSpec.upto bitsPartsSpec)

/-- 'plumblinelaw01.BitsExact', WHERE WHAT IT READS IS OF BULK AT MOST 1048576: true; the input reads as it did. -/
def bitsExactUptoRow : OpenClaim := { program := "ytaeognfpmhfmgaadoor", sum := "0eaf09dd2c23f7c004031d4df7cb99cac14fd01d5ab897711b2adafbd84453a8", func := "plumbline/plumblinelaw01.BitsExact", spec := "bitsExact", inPlace := ["math.Float64bits", "math.Float64frombits"], unfollowed := true, recurses := true, named := ["math/bits.deBruijn64tab"], apart := false, laid := [("math/bits.deBruijn64tab", laid_math_bits_deBruijn64tab)], narrowed := true }
def BitsExactUptoSaid : Prop := bitsExactUptoRow.holds Tryd.pinned (OpenSpec.upto bitsExactSpec)

/-- 'plumblinelaw01.BitsRound', WHERE WHAT IT READS IS OF BULK AT MOST 1048576: true; the input reads as it did. -/
def bitsRoundUptoRow : OpenClaim := { program := "ytaeognfpmhfmgaadoor", sum := "0eaf09dd2c23f7c004031d4df7cb99cac14fd01d5ab897711b2adafbd84453a8", func := "plumbline/plumblinelaw01.BitsRound", spec := "bitsRound", inPlace := ["math.Float64bits", "math.Float64frombits"], unfollowed := true, recurses := true, named := ["math/bits.deBruijn64tab"], apart := false, laid := [("math/bits.deBruijn64tab", laid_math_bits_deBruijn64tab)], narrowed := true }
def BitsRoundUptoSaid : Prop := bitsRoundUptoRow.holds Tryd.pinned (OpenSpec.upto bitsRoundSpec)

/-- 'plumblinelaw01.BitsScale', WHERE WHAT IT READS IS OF BULK AT MOST 1048576: true; the input reads as it did. -/
def bitsScaleUptoRow : OpenClaim := { program := "ytaeognfpmhfmgaadoor", sum := "0eaf09dd2c23f7c004031d4df7cb99cac14fd01d5ab897711b2adafbd84453a8", func := "plumbline/plumblinelaw01.BitsScale", spec := "bitsScale", inPlace := ["math.Float64frombits", "math.Float64bits"], unfollowed := true, recurses := true, named := ["math/bits.deBruijn64tab"], apart := false, laid := [("math/bits.deBruijn64tab", laid_math_bits_deBruijn64tab)], narrowed := true }
def BitsScaleUptoSaid : Prop := bitsScaleUptoRow.holds Tryd.pinned (OpenSpec.upto bitsScaleSpec)

/-- 'plumblinelaw01.BitsCompare', WHERE WHAT IT READS IS OF BULK AT MOST 1048576: true; the input reads as it did. -/
def bitsCompareUptoRow : OpenClaim := { program := "ytaeognfpmhfmgaadoor", sum := "0eaf09dd2c23f7c004031d4df7cb99cac14fd01d5ab897711b2adafbd84453a8", func := "plumbline/plumblinelaw01.BitsCompare", spec := "bitsCompare", inPlace := ["math.Float64bits", "math.Float64frombits"], unfollowed := true, recurses := true, named := ["math/bits.deBruijn64tab"], apart := false, laid := [("math/bits.deBruijn64tab", laid_math_bits_deBruijn64tab)], narrowed := true }
def BitsCompareUptoSaid : Prop := bitsCompareUptoRow.holds Tryd.pinned (OpenSpec.upto bitsCompareSpec)

/-- 'plumblinelaw01.BitsLog', WHERE WHAT IT READS IS OF BULK AT MOST 1048576: true; the input reads as it did. -/
def bitsLogUptoRow : OpenClaim := { program := "ytaeognfpmhfmgaadoor", sum := "0eaf09dd2c23f7c004031d4df7cb99cac14fd01d5ab897711b2adafbd84453a8", func := "plumbline/plumblinelaw01.BitsLog", spec := "bitsLog", inPlace := ["math.Float64bits", "math.Float64frombits"], unfollowed := true, recurses := true, named := ["math/bits.deBruijn64tab"], apart := false, laid := [("math/bits.deBruijn64tab", laid_math_bits_deBruijn64tab)], narrowed := true }
def BitsLogUptoSaid : Prop := bitsLogUptoRow.holds Tryd.pinned (OpenSpec.upto bitsLogSpec)

/-- 'plumblinelaw01.BitsMeans', WHERE WHAT IT READS IS OF BULK AT MOST 1048576: true; the input reads as it did. -/
def bitsMeansUptoRow : OpenClaim := { program := "ytaeognfpmhfmgaadoor", sum := "0eaf09dd2c23f7c004031d4df7cb99cac14fd01d5ab897711b2adafbd84453a8", func := "plumbline/plumblinelaw01.BitsMeans", spec := "bitsMeans", inPlace := ["math.Float64bits", "math.Float64frombits"], unfollowed := true, recurses := true, named := ["math/bits.deBruijn64tab"], apart := false, laid := [("math/bits.deBruijn64tab", laid_math_bits_deBruijn64tab)], narrowed := true }
def BitsMeansUptoSaid : Prop := bitsMeansUptoRow.holds Tryd.pinned (OpenSpec.upto bitsMeansSpec)

/-- 'plumblinelaw01.BitsClass', WHERE WHAT IT READS IS OF BULK AT MOST 1048576: true; the input reads as it did. -/
def bitsClassUptoRow : OpenClaim := { program := "ytaeognfpmhfmgaadoor", sum := "0eaf09dd2c23f7c004031d4df7cb99cac14fd01d5ab897711b2adafbd84453a8", func := "plumbline/plumblinelaw01.BitsClass", spec := "bitsClass", inPlace := ["math.Float64bits", "math.Float64frombits"], unfollowed := true, recurses := true, named := ["math/bits.deBruijn64tab"], apart := false, laid := [("math/bits.deBruijn64tab", laid_math_bits_deBruijn64tab)], narrowed := true }
def BitsClassUptoSaid : Prop := bitsClassUptoRow.holds Tryd.pinned (OpenSpec.upto bitsClassSpec)

/-- 'plumblinelaw01.BitsTexts', WHERE WHAT IT READS IS OF BULK AT MOST 1048576: true; the input reads as it did. -/
def bitsTextsUptoRow : OpenClaim := { program := "ytaeognfpmhfmgaadoor", sum := "0eaf09dd2c23f7c004031d4df7cb99cac14fd01d5ab897711b2adafbd84453a8", func := "plumbline/plumblinelaw01.BitsTexts", spec := "bitsTexts", inPlace := ["math.Float64bits", "math.Float64frombits"], unfollowed := true, recurses := true, named := ["math/bits.deBruijn64tab"], apart := false, laid := [("math/bits.deBruijn64tab", laid_math_bits_deBruijn64tab)], narrowed := true }
def BitsTextsUptoSaid : Prop := bitsTextsUptoRow.holds Tryd.pinned (OpenSpec.upto bitsTextsSpec)

/-- 'plumblinelaw01.BitsBounds', WHERE WHAT IT READS IS OF BULK AT MOST 1048576: true; the input reads as it did. -/
def bitsBoundsUptoRow : OpenClaim := { program := "ytaeognfpmhfmgaadoor", sum := "0eaf09dd2c23f7c004031d4df7cb99cac14fd01d5ab897711b2adafbd84453a8", func := "plumbline/plumblinelaw01.BitsBounds", spec := "bitsBounds", inPlace := ["math.Float64bits", "math.Float64frombits"], unfollowed := true, recurses := true, named := ["math/bits.deBruijn64tab"], apart := false, laid := [("math/bits.deBruijn64tab", laid_math_bits_deBruijn64tab)], narrowed := true }
def BitsBoundsUptoSaid : Prop := bitsBoundsUptoRow.holds Tryd.pinned (OpenSpec.upto bitsBoundsSpec)

end Rows
end Go.Proofs.YtaeognfpmhfmgaaDoor
