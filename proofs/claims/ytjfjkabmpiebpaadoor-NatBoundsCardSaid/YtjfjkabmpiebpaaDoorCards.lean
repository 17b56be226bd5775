/-
  DERIVED. GIVEN WITH THE SEED: THE CARDS: each row of YtjfjkabmpiebpaaDoorRows.lean that lists a variable, with what it lists TIED to the program's text (the seventh form; the later family's looks); each row that meets fmt, with fmt's text TOLD by the authors' own Lean function (tested against real Go, not proved from fmt's source: count such statements apart). THE CARD IS WHAT COUNTS. Prove the row's statement (the work); the ties are given (YtjfjkabmpiebpaaDoorTie.lean); close each card by the builder's one call (the guide's Derived/Test/ToyasCard.lean, 'card_holds'). Laid BY PROGRAM, IN A SANDBOX (cutbox-door.mjs). By AI agents, Wed Nov 11 2026. No macro, syntax, notation, axiom, sorry.
-/
import Derived.Test.YtjfjkabmpiebpaaDoorRows
import GoSem.ClaimSeven
namespace Go.Proofs.YtjfjkabmpiebpaaDoor
namespace Rows

/-- THE TIED CARD OF 'plumblinelaw02.NatAdds'. -/
def natAddsCard : Claim7 := { stood := { row := natAddsRow, standIns := [], harness := (true, "91f3f254c7085369c3f78b17ca16ef3b2c45174a626e8b23836056cd88a92a06"), looks := false }, kinds := [], alts := [], laidByText := true, laidKinds := [.data, .data, .pinned], laidTests := true, laidLooks := .later }
def NatAddsCardSaid : Prop := Claim7.holds Tryd.pinned (.plain (OpenSpec.ofChange natAddsSpec)) natAddsCard

/-- THE TIED CARD OF 'plumblinelaw02.NatSubs'. -/
def natSubsCard : Claim7 := { stood := { row := natSubsRow, standIns := [], harness := (true, "91f3f254c7085369c3f78b17ca16ef3b2c45174a626e8b23836056cd88a92a06"), looks := false }, kinds := [], alts := [], laidByText := true, laidKinds := [.data, .data, .pinned], laidTests := true, laidLooks := .later }
def NatSubsCardSaid : Prop := Claim7.holds Tryd.pinned (.plain (OpenSpec.ofChange natSubsSpec)) natSubsCard

/-- THE TIED CARD OF 'plumblinelaw02.NatMuls'. -/
def natMulsCard : Claim7 := { stood := { row := natMulsRow, standIns := [], harness := (true, "91f3f254c7085369c3f78b17ca16ef3b2c45174a626e8b23836056cd88a92a06"), looks := false }, kinds := [], alts := [], laidByText := true, laidKinds := [.data, .data, .pinned], laidTests := true, laidLooks := .later }
def NatMulsCardSaid : Prop := Claim7.holds Tryd.pinned (.plain (OpenSpec.ofChange natMulsSpec)) natMulsCard

/-- THE TIED CARD OF 'plumblinelaw02.NatDivs'. -/
def natDivsCard : Claim7 := { stood := { row := natDivsRow, standIns := [], harness := (true, "91f3f254c7085369c3f78b17ca16ef3b2c45174a626e8b23836056cd88a92a06"), looks := false }, kinds := [], alts := [], laidByText := true, laidKinds := [.data, .data, .pinned], laidTests := true, laidLooks := .later }
def NatDivsCardSaid : Prop := Claim7.holds Tryd.pinned (.plain (OpenSpec.ofChange natDivsSpec)) natDivsCard

/-- THE TIED CARD OF 'plumblinelaw02.NatRoots'. -/
def natRootsCard : Claim7 := { stood := { row := natRootsRow, standIns := [], harness := (true, "91f3f254c7085369c3f78b17ca16ef3b2c45174a626e8b23836056cd88a92a06"), looks := false }, kinds := [], alts := [], laidByText := true, laidKinds := [.data, .data, .pinned], laidTests := true, laidLooks := .later }
def NatRootsCardSaid : Prop := Claim7.holds Tryd.pinned (.plain (OpenSpec.ofChange natRootsSpec)) natRootsCard

/-- THE TIED CARD OF 'plumblinelaw02.NatRight'. -/
def natRightCard : Claim7 := { stood := { row := natRightRow, standIns := [], harness := (true, "91f3f254c7085369c3f78b17ca16ef3b2c45174a626e8b23836056cd88a92a06"), looks := false }, kinds := [], alts := [], laidByText := true, laidKinds := [.data, .data, .pinned], laidTests := true, laidLooks := .later }
def NatRightCardSaid : Prop := Claim7.holds Tryd.pinned (.plain (OpenSpec.ofChange natRightSpec)) natRightCard

/-- THE TIED CARD OF 'plumblinelaw02.NatTexts'. -/
def natTextsCard : Claim7 := { stood := { row := natTextsRow, standIns := [], harness := (true, "91f3f254c7085369c3f78b17ca16ef3b2c45174a626e8b23836056cd88a92a06"), looks := false }, kinds := [], alts := [], laidByText := true, laidKinds := [.data, .data, .pinned], laidTests := true, laidLooks := .later }
def NatTextsCardSaid : Prop := Claim7.holds Tryd.pinned (.plain (OpenSpec.ofChange natTextsSpec)) natTextsCard

/-- THE TIED CARD OF 'plumblinelaw02.NatRings'. -/
def natRingsCard : Claim7 := { stood := { row := natRingsRow, standIns := [], harness := (true, "91f3f254c7085369c3f78b17ca16ef3b2c45174a626e8b23836056cd88a92a06"), looks := false }, kinds := [], alts := [], laidByText := true, laidKinds := [.data, .data, .pinned], laidTests := true, laidLooks := .later }
def NatRingsCardSaid : Prop := Claim7.holds Tryd.pinned (.plain (OpenSpec.ofChange natRingsSpec)) natRingsCard

/-- THE TIED CARD OF 'plumblinelaw02.NatLeft'. -/
def natLeftCard : Claim7 := { stood := { row := natLeftRow, standIns := [], harness := (true, "91f3f254c7085369c3f78b17ca16ef3b2c45174a626e8b23836056cd88a92a06"), looks := false }, kinds := [], alts := [], laidByText := true, laidKinds := [.data, .data, .pinned], laidTests := true, laidLooks := .later }
def NatLeftCardSaid : Prop := Claim7.holds Tryd.pinned (.plain (OpenSpec.ofChange natLeftSpec)) natLeftCard

/-- THE TIED CARD OF 'plumblinelaw02.NatBits'. -/
def natBitsCard : Claim7 := { stood := { row := natBitsRow, standIns := [], harness := (true, "91f3f254c7085369c3f78b17ca16ef3b2c45174a626e8b23836056cd88a92a06"), looks := false }, kinds := [], alts := [], laidByText := true, laidKinds := [.data, .data, .pinned], laidTests := true, laidLooks := .later }
def NatBitsCardSaid : Prop := Claim7.holds Tryd.pinned (.plain (OpenSpec.ofChange natBitsSpec)) natBitsCard

/-- THE TIED CARD OF 'plumblinelaw02.NatCompares'. -/
def natComparesCard : Claim7 := { stood := { row := natComparesRow, standIns := [], harness := (true, "91f3f254c7085369c3f78b17ca16ef3b2c45174a626e8b23836056cd88a92a06"), looks := false }, kinds := [], alts := [], laidByText := true, laidKinds := [.data, .data, .pinned], laidTests := true, laidLooks := .later }
def NatComparesCardSaid : Prop := Claim7.holds Tryd.pinned (.plain (OpenSpec.ofChange natComparesSpec)) natComparesCard

/-- THE TIED CARD OF 'plumblinelaw02.NatBounds'. -/
def natBoundsCard : Claim7 := { stood := { row := natBoundsRow, standIns := [], harness := (true, "91f3f254c7085369c3f78b17ca16ef3b2c45174a626e8b23836056cd88a92a06"), looks := false }, kinds := [], alts := [], laidByText := true, laidKinds := [.data, .data, .pinned], laidTests := true, laidLooks := .later }
def NatBoundsCardSaid : Prop := Claim7.holds Tryd.pinned (.plain (OpenSpec.ofChange natBoundsSpec)) natBoundsCard

/-- THE SECOND FORM's CARD OF 'plumblinelaw02.NatAdds'. -/
def natAddsUptoCard : Claim7 := { stood := { row := natAddsUptoRow, standIns := [], harness := (true, "91f3f254c7085369c3f78b17ca16ef3b2c45174a626e8b23836056cd88a92a06"), looks := false }, kinds := [], alts := [], laidByText := true, laidKinds := [.data, .data, .pinned], laidTests := true, laidLooks := .later }
def NatAddsUptoCardSaid : Prop := Claim7.holds Tryd.pinned (.plain (OpenSpec.upto natAddsSpec)) natAddsUptoCard

/-- THE SECOND FORM's CARD OF 'plumblinelaw02.NatSubs'. -/
def natSubsUptoCard : Claim7 := { stood := { row := natSubsUptoRow, standIns := [], harness := (true, "91f3f254c7085369c3f78b17ca16ef3b2c45174a626e8b23836056cd88a92a06"), looks := false }, kinds := [], alts := [], laidByText := true, laidKinds := [.data, .data, .pinned], laidTests := true, laidLooks := .later }
def NatSubsUptoCardSaid : Prop := Claim7.holds Tryd.pinned (.plain (OpenSpec.upto natSubsSpec)) natSubsUptoCard

/-- THE SECOND FORM's CARD OF 'plumblinelaw02.NatMuls'. -/
def natMulsUptoCard : Claim7 := { stood := { row := natMulsUptoRow, standIns := [], harness := (true, "91f3f254c7085369c3f78b17ca16ef3b2c45174a626e8b23836056cd88a92a06"), looks := false }, kinds := [], alts := [], laidByText := true, laidKinds := [.data, .data, .pinned], laidTests := true, laidLooks := .later }
def NatMulsUptoCardSaid : Prop := Claim7.holds Tryd.pinned (.plain (OpenSpec.upto natMulsSpec)) natMulsUptoCard

/-- THE SECOND FORM's CARD OF 'plumblinelaw02.NatDivs'. -/
def natDivsUptoCard : Claim7 := { stood := { row := natDivsUptoRow, standIns := [], harness := (true, "91f3f254c7085369c3f78b17ca16ef3b2c45174a626e8b23836056cd88a92a06"), looks := false }, kinds := [], alts := [], laidByText := true, laidKinds := [.data, .data, .pinned], laidTests := true, laidLooks := .later }
def NatDivsUptoCardSaid : Prop := Claim7.holds Tryd.pinned (.plain (OpenSpec.upto natDivsSpec)) natDivsUptoCard

/-- THE SECOND FORM's CARD OF 'plumblinelaw02.NatRoots'. -/
def natRootsUptoCard : Claim7 := { stood := { row := natRootsUptoRow, standIns := [], harness := (true, "91f3f254c7085369c3f78b17ca16ef3b2c45174a626e8b23836056cd88a92a06"), looks := false }, kinds := [], alts := [], laidByText := true, laidKinds := [.data, .data, .pinned], laidTests := true, laidLooks := .later }
def NatRootsUptoCardSaid : Prop := Claim7.holds Tryd.pinned (.plain (OpenSpec.upto natRootsSpec)) natRootsUptoCard

/-- THE SECOND FORM's CARD OF 'plumblinelaw02.NatRight'. -/
def natRightUptoCard : Claim7 := { stood := { row := natRightUptoRow, standIns := [], harness := (true, "91f3f254c7085369c3f78b17ca16ef3b2c45174a626e8b23836056cd88a92a06"), looks := false }, kinds := [], alts := [], laidByText := true, laidKinds := [.data, .data, .pinned], laidTests := true, laidLooks := .later }
def NatRightUptoCardSaid : Prop := Claim7.holds Tryd.pinned (.plain (OpenSpec.upto natRightSpec)) natRightUptoCard

/-- THE SECOND FORM's CARD OF 'plumblinelaw02.NatTexts'. -/
def natTextsUptoCard : Claim7 := { stood := { row := natTextsUptoRow, standIns := [], harness := (true, "91f3f254c7085369c3f78b17ca16ef3b2c45174a626e8b23836056cd88a92a06"), looks := false }, kinds := [], alts := [], laidByText := true, laidKinds := [.data, .data, .pinned], laidTests := true, laidLooks := .later }
def NatTextsUptoCardSaid : Prop := Claim7.holds Tryd.pinned (.plain (OpenSpec.upto natTextsSpec)) natTextsUptoCard

/-- THE SECOND FORM's CARD OF 'plumblinelaw02.NatRings'. -/
def natRingsUptoCard : Claim7 := { stood := { row := natRingsUptoRow, standIns := [], harness := (true, "91f3f254c7085369c3f78b17ca16ef3b2c45174a626e8b23836056cd88a92a06"), looks := false }, kinds := [], alts := [], laidByText := true, laidKinds := [.data, .data, .pinned], laidTests := true, laidLooks := .later }
def NatRingsUptoCardSaid : Prop := Claim7.holds Tryd.pinned (.plain (OpenSpec.upto natRingsSpec)) natRingsUptoCard

/-- THE SECOND FORM's CARD OF 'plumblinelaw02.NatLeft'. -/
def natLeftUptoCard : Claim7 := { stood := { row := natLeftUptoRow, standIns := [], harness := (true, "91f3f254c7085369c3f78b17ca16ef3b2c45174a626e8b23836056cd88a92a06"), looks := false }, kinds := [], alts := [], laidByText := true, laidKinds := [.data, .data, .pinned], laidTests := true, laidLooks := .later }
def NatLeftUptoCardSaid : Prop := Claim7.holds Tryd.pinned (.plain (OpenSpec.upto natLeftSpec)) natLeftUptoCard

/-- THE SECOND FORM's CARD OF 'plumblinelaw02.NatBits'. -/
def natBitsUptoCard : Claim7 := { stood := { row := natBitsUptoRow, standIns := [], harness := (true, "91f3f254c7085369c3f78b17ca16ef3b2c45174a626e8b23836056cd88a92a06"), looks := false }, kinds := [], alts := [], laidByText := true, laidKinds := [.data, .data, .pinned], laidTests := true, laidLooks := .later }
def NatBitsUptoCardSaid : Prop := Claim7.holds Tryd.pinned (.plain (OpenSpec.upto natBitsSpec)) natBitsUptoCard

/-- THE SECOND FORM's CARD OF 'plumblinelaw02.NatCompares'. -/
def natComparesUptoCard : Claim7 := { stood := { row := natComparesUptoRow, standIns := [], harness := (true, "91f3f254c7085369c3f78b17ca16ef3b2c45174a626e8b23836056cd88a92a06"), looks := false }, kinds := [], alts := [], laidByText := true, laidKinds := [.data, .data, .pinned], laidTests := true, laidLooks := .later }
def NatComparesUptoCardSaid : Prop := Claim7.holds Tryd.pinned (.plain (OpenSpec.upto natComparesSpec)) natComparesUptoCard

/-- THE SECOND FORM's CARD OF 'plumblinelaw02.NatBounds'. -/
def natBoundsUptoCard : Claim7 := { stood := { row := natBoundsUptoRow, standIns := [], harness := (true, "91f3f254c7085369c3f78b17ca16ef3b2c45174a626e8b23836056cd88a92a06"), looks := false }, kinds := [], alts := [], laidByText := true, laidKinds := [.data, .data, .pinned], laidTests := true, laidLooks := .later }
def NatBoundsUptoCardSaid : Prop := Claim7.holds Tryd.pinned (.plain (OpenSpec.upto natBoundsSpec)) natBoundsUptoCard
end Rows
end Go.Proofs.YtjfjkabmpiebpaaDoor
