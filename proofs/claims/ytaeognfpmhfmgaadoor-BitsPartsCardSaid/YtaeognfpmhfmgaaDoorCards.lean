/-
  DERIVED. GIVEN WITH THE SEED: THE CARDS: each row of YtaeognfpmhfmgaaDoorRows.lean that lists a variable, with what it lists TIED to the program's text (the seventh form; the later family's looks); each row that meets fmt, with fmt's text TOLD by the authors' own Lean function (tested against real Go, not proved from fmt's source: count such statements apart). THE CARD IS WHAT COUNTS. Prove the row's statement (the work); the ties are given (YtaeognfpmhfmgaaDoorTie.lean); close each card by the builder's one call (the guide's Derived/Test/ToyasCard.lean, 'card_holds'). Laid BY PROGRAM, IN A SANDBOX (cutbox-door.mjs). By AI agents, Wed Nov 11 2026. No macro, syntax, notation, axiom, sorry.
-/
import Derived.Test.YtaeognfpmhfmgaaDoorRows
import GoSem.ClaimSeven
namespace Go.Proofs.YtaeognfpmhfmgaaDoor
namespace Rows

/-- THE TIED CARD OF 'plumblinelaw01.BitsFloat'. -/
def bitsFloatCard : Claim7 := { stood := { row := bitsFloatRow, standIns := [], harness := (true, "088f15fe339059333326295f0bc0b165cd98e58625f84ed0939db4f85a25a21a"), looks := false }, kinds := [], alts := [], laidByText := true, laidKinds := [.data], laidTests := true, laidLooks := .later }
def BitsFloatCardSaid : Prop := Claim7.holds Tryd.pinned (.plain (OpenSpec.ofChange bitsFloatSpec)) bitsFloatCard

/-- THE TIED CARD OF 'plumblinelaw01.BitsParts'. -/
def bitsPartsCard : Claim7 := { stood := { row := bitsPartsRow, standIns := [], harness := (true, "088f15fe339059333326295f0bc0b165cd98e58625f84ed0939db4f85a25a21a"), looks := false }, kinds := [], alts := [], laidByText := true, laidKinds := [.data], laidTests := true, laidLooks := .later }
def BitsPartsCardSaid : Prop := Claim7.holds Tryd.pinned (.plain (OpenSpec.ofChange bitsPartsSpec)) bitsPartsCard

/-- THE TIED CARD OF 'plumblinelaw01.BitsExact'. -/
def bitsExactCard : Claim7 := { stood := { row := bitsExactRow, standIns := [], harness := (true, "088f15fe339059333326295f0bc0b165cd98e58625f84ed0939db4f85a25a21a"), looks := false }, kinds := [], alts := [], laidByText := true, laidKinds := [.data], laidTests := true, laidLooks := .later }
def BitsExactCardSaid : Prop := Claim7.holds Tryd.pinned (.plain (OpenSpec.ofChange bitsExactSpec)) bitsExactCard

/-- THE TIED CARD OF 'plumblinelaw01.BitsRound'. -/
def bitsRoundCard : Claim7 := { stood := { row := bitsRoundRow, standIns := [], harness := (true, "088f15fe339059333326295f0bc0b165cd98e58625f84ed0939db4f85a25a21a"), looks := false }, kinds := [], alts := [], laidByText := true, laidKinds := [.data], laidTests := true, laidLooks := .later }
def BitsRoundCardSaid : Prop := Claim7.holds Tryd.pinned (.plain (OpenSpec.ofChange bitsRoundSpec)) bitsRoundCard

/-- THE TIED CARD OF 'plumblinelaw01.BitsScale'. -/
def bitsScaleCard : Claim7 := { stood := { row := bitsScaleRow, standIns := [], harness := (true, "088f15fe339059333326295f0bc0b165cd98e58625f84ed0939db4f85a25a21a"), looks := false }, kinds := [], alts := [], laidByText := true, laidKinds := [.data], laidTests := true, laidLooks := .later }
def BitsScaleCardSaid : Prop := Claim7.holds Tryd.pinned (.plain (OpenSpec.ofChange bitsScaleSpec)) bitsScaleCard

/-- THE TIED CARD OF 'plumblinelaw01.BitsCompare'. -/
def bitsCompareCard : Claim7 := { stood := { row := bitsCompareRow, standIns := [], harness := (true, "088f15fe339059333326295f0bc0b165cd98e58625f84ed0939db4f85a25a21a"), looks := false }, kinds := [], alts := [], laidByText := true, laidKinds := [.data], laidTests := true, laidLooks := .later }
def BitsCompareCardSaid : Prop := Claim7.holds Tryd.pinned (.plain (OpenSpec.ofChange bitsCompareSpec)) bitsCompareCard

/-- THE TIED CARD OF 'plumblinelaw01.BitsLog'. -/
def bitsLogCard : Claim7 := { stood := { row := bitsLogRow, standIns := [], harness := (true, "088f15fe339059333326295f0bc0b165cd98e58625f84ed0939db4f85a25a21a"), looks := false }, kinds := [], alts := [], laidByText := true, laidKinds := [.data], laidTests := true, laidLooks := .later }
def BitsLogCardSaid : Prop := Claim7.holds Tryd.pinned (.plain (OpenSpec.ofChange bitsLogSpec)) bitsLogCard

/-- THE TIED CARD OF 'plumblinelaw01.BitsMeans'. -/
def bitsMeansCard : Claim7 := { stood := { row := bitsMeansRow, standIns := [], harness := (true, "088f15fe339059333326295f0bc0b165cd98e58625f84ed0939db4f85a25a21a"), looks := false }, kinds := [], alts := [], laidByText := true, laidKinds := [.data], laidTests := true, laidLooks := .later }
def BitsMeansCardSaid : Prop := Claim7.holds Tryd.pinned (.plain (OpenSpec.ofChange bitsMeansSpec)) bitsMeansCard

/-- THE TIED CARD OF 'plumblinelaw01.BitsClass'. -/
def bitsClassCard : Claim7 := { stood := { row := bitsClassRow, standIns := [], harness := (true, "088f15fe339059333326295f0bc0b165cd98e58625f84ed0939db4f85a25a21a"), looks := false }, kinds := [], alts := [], laidByText := true, laidKinds := [.data], laidTests := true, laidLooks := .later }
def BitsClassCardSaid : Prop := Claim7.holds Tryd.pinned (.plain (OpenSpec.ofChange bitsClassSpec)) bitsClassCard

/-- THE TIED CARD OF 'plumblinelaw01.BitsTexts'. -/
def bitsTextsCard : Claim7 := { stood := { row := bitsTextsRow, standIns := [], harness := (true, "088f15fe339059333326295f0bc0b165cd98e58625f84ed0939db4f85a25a21a"), looks := false }, kinds := [], alts := [], laidByText := true, laidKinds := [.data], laidTests := true, laidLooks := .later }
def BitsTextsCardSaid : Prop := Claim7.holds Tryd.pinned (.plain (OpenSpec.ofChange bitsTextsSpec)) bitsTextsCard

/-- THE TIED CARD OF 'plumblinelaw01.BitsBounds'. -/
def bitsBoundsCard : Claim7 := { stood := { row := bitsBoundsRow, standIns := [], harness := (true, "088f15fe339059333326295f0bc0b165cd98e58625f84ed0939db4f85a25a21a"), looks := false }, kinds := [], alts := [], laidByText := true, laidKinds := [.data], laidTests := true, laidLooks := .later }
def BitsBoundsCardSaid : Prop := Claim7.holds Tryd.pinned (.plain (OpenSpec.ofChange bitsBoundsSpec)) bitsBoundsCard

/-- THE SECOND FORM's CARD OF 'plumblinelaw01.BitsFloat'. -/
def bitsFloatUptoCard : Claim7 := { stood := { row := bitsFloatUptoRow, standIns := [], harness := (true, "088f15fe339059333326295f0bc0b165cd98e58625f84ed0939db4f85a25a21a"), looks := false }, kinds := [], alts := [], laidByText := true, laidKinds := [.data], laidTests := true, laidLooks := .later }
def BitsFloatUptoCardSaid : Prop := Claim7.holds Tryd.pinned (.plain (OpenSpec.upto bitsFloatSpec)) bitsFloatUptoCard

/-- THE SECOND FORM's CARD OF 'plumblinelaw01.BitsParts'. -/
def bitsPartsUptoCard : Claim7 := { stood := { row := bitsPartsUptoRow, standIns := [], harness := (true, "088f15fe339059333326295f0bc0b165cd98e58625f84ed0939db4f85a25a21a"), looks := false }, kinds := [], alts := [], laidByText := true, laidKinds := [.data], laidTests := true, laidLooks := .later }
def BitsPartsUptoCardSaid : Prop := Claim7.holds Tryd.pinned (.plain (OpenSpec.upto bitsPartsSpec)) bitsPartsUptoCard

/-- THE SECOND FORM's CARD OF 'plumblinelaw01.BitsExact'. -/
def bitsExactUptoCard : Claim7 := { stood := { row := bitsExactUptoRow, standIns := [], harness := (true, "088f15fe339059333326295f0bc0b165cd98e58625f84ed0939db4f85a25a21a"), looks := false }, kinds := [], alts := [], laidByText := true, laidKinds := [.data], laidTests := true, laidLooks := .later }
def BitsExactUptoCardSaid : Prop := Claim7.holds Tryd.pinned (.plain (OpenSpec.upto bitsExactSpec)) bitsExactUptoCard

/-- THE SECOND FORM's CARD OF 'plumblinelaw01.BitsRound'. -/
def bitsRoundUptoCard : Claim7 := { stood := { row := bitsRoundUptoRow, standIns := [], harness := (true, "088f15fe339059333326295f0bc0b165cd98e58625f84ed0939db4f85a25a21a"), looks := false }, kinds := [], alts := [], laidByText := true, laidKinds := [.data], laidTests := true, laidLooks := .later }
def BitsRoundUptoCardSaid : Prop := Claim7.holds Tryd.pinned (.plain (OpenSpec.upto bitsRoundSpec)) bitsRoundUptoCard

/-- THE SECOND FORM's CARD OF 'plumblinelaw01.BitsScale'. -/
def bitsScaleUptoCard : Claim7 := { stood := { row := bitsScaleUptoRow, standIns := [], harness := (true, "088f15fe339059333326295f0bc0b165cd98e58625f84ed0939db4f85a25a21a"), looks := false }, kinds := [], alts := [], laidByText := true, laidKinds := [.data], laidTests := true, laidLooks := .later }
def BitsScaleUptoCardSaid : Prop := Claim7.holds Tryd.pinned (.plain (OpenSpec.upto bitsScaleSpec)) bitsScaleUptoCard

/-- THE SECOND FORM's CARD OF 'plumblinelaw01.BitsCompare'. -/
def bitsCompareUptoCard : Claim7 := { stood := { row := bitsCompareUptoRow, standIns := [], harness := (true, "088f15fe339059333326295f0bc0b165cd98e58625f84ed0939db4f85a25a21a"), looks := false }, kinds := [], alts := [], laidByText := true, laidKinds := [.data], laidTests := true, laidLooks := .later }
def BitsCompareUptoCardSaid : Prop := Claim7.holds Tryd.pinned (.plain (OpenSpec.upto bitsCompareSpec)) bitsCompareUptoCard

/-- THE SECOND FORM's CARD OF 'plumblinelaw01.BitsLog'. -/
def bitsLogUptoCard : Claim7 := { stood := { row := bitsLogUptoRow, standIns := [], harness := (true, "088f15fe339059333326295f0bc0b165cd98e58625f84ed0939db4f85a25a21a"), looks := false }, kinds := [], alts := [], laidByText := true, laidKinds := [.data], laidTests := true, laidLooks := .later }
def BitsLogUptoCardSaid : Prop := Claim7.holds Tryd.pinned (.plain (OpenSpec.upto bitsLogSpec)) bitsLogUptoCard

/-- THE SECOND FORM's CARD OF 'plumblinelaw01.BitsMeans'. -/
def bitsMeansUptoCard : Claim7 := { stood := { row := bitsMeansUptoRow, standIns := [], harness := (true, "088f15fe339059333326295f0bc0b165cd98e58625f84ed0939db4f85a25a21a"), looks := false }, kinds := [], alts := [], laidByText := true, laidKinds := [.data], laidTests := true, laidLooks := .later }
def BitsMeansUptoCardSaid : Prop := Claim7.holds Tryd.pinned (.plain (OpenSpec.upto bitsMeansSpec)) bitsMeansUptoCard

/-- THE SECOND FORM's CARD OF 'plumblinelaw01.BitsClass'. -/
def bitsClassUptoCard : Claim7 := { stood := { row := bitsClassUptoRow, standIns := [], harness := (true, "088f15fe339059333326295f0bc0b165cd98e58625f84ed0939db4f85a25a21a"), looks := false }, kinds := [], alts := [], laidByText := true, laidKinds := [.data], laidTests := true, laidLooks := .later }
def BitsClassUptoCardSaid : Prop := Claim7.holds Tryd.pinned (.plain (OpenSpec.upto bitsClassSpec)) bitsClassUptoCard

/-- THE SECOND FORM's CARD OF 'plumblinelaw01.BitsTexts'. -/
def bitsTextsUptoCard : Claim7 := { stood := { row := bitsTextsUptoRow, standIns := [], harness := (true, "088f15fe339059333326295f0bc0b165cd98e58625f84ed0939db4f85a25a21a"), looks := false }, kinds := [], alts := [], laidByText := true, laidKinds := [.data], laidTests := true, laidLooks := .later }
def BitsTextsUptoCardSaid : Prop := Claim7.holds Tryd.pinned (.plain (OpenSpec.upto bitsTextsSpec)) bitsTextsUptoCard

/-- THE SECOND FORM's CARD OF 'plumblinelaw01.BitsBounds'. -/
def bitsBoundsUptoCard : Claim7 := { stood := { row := bitsBoundsUptoRow, standIns := [], harness := (true, "088f15fe339059333326295f0bc0b165cd98e58625f84ed0939db4f85a25a21a"), looks := false }, kinds := [], alts := [], laidByText := true, laidKinds := [.data], laidTests := true, laidLooks := .later }
def BitsBoundsUptoCardSaid : Prop := Claim7.holds Tryd.pinned (.plain (OpenSpec.upto bitsBoundsSpec)) bitsBoundsUptoCard
end Rows
end Go.Proofs.YtaeognfpmhfmgaaDoor
