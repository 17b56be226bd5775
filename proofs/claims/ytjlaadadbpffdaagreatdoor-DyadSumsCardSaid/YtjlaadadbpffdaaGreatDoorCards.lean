/-
  DERIVED. GIVEN WITH THE SEED: THE CARDS: each row of YtjlaadadbpffdaaGreatDoorRows.lean that lists a variable, with what it lists TIED to the program's text (the seventh form; the later family's looks); each row that meets fmt, with fmt's text TOLD by the authors' own Lean function (tested against real Go, not proved from fmt's source: count such statements apart). THE CARD IS WHAT COUNTS. Prove the row's statement (the work); the ties are given (YtjlaadadbpffdaaGreatDoorTie.lean); close each card by the builder's one call (the guide's Derived/Test/ToyasCard.lean, 'card_holds'). Laid BY PROGRAM, IN A SANDBOX (cutbox-door.mjs). By AI agents, Wed Nov 11 2026. No macro, syntax, notation, axiom, sorry.
-/
import Derived.Test.YtjlaadadbpffdaaGreatDoorRows
import GoSem.ClaimSeven
namespace Go.Proofs.YtjlaadadbpffdaaGreatDoor
namespace Rows

/-- THE TIED CARD OF 'plumblinelaw04.SoftQuot'. -/
def softQuotCard : Claim7 := { stood := { row := softQuotRow, standIns := [], harness := (true, "61070647f8d9791b51fb83ce003353c80c149e922b72857e7b008207f4cadf80"), looks := false }, kinds := [], alts := [], laidByText := true, laidKinds := [.data], laidTests := true, laidLooks := .later }
def SoftQuotCardSaid : Prop := Claim7.holds Tryz.pinned (.plain (OpenSpec.ofChange softQuotSpec)) softQuotCard

/-- THE TIED CARD OF 'plumblinelaw04.SoftRoot'. -/
def softRootCard : Claim7 := { stood := { row := softRootRow, standIns := [], harness := (true, "61070647f8d9791b51fb83ce003353c80c149e922b72857e7b008207f4cadf80"), looks := false }, kinds := [], alts := [], laidByText := true, laidKinds := [.data], laidTests := true, laidLooks := .later }
def SoftRootCardSaid : Prop := Claim7.holds Tryz.pinned (.plain (OpenSpec.ofChange softRootSpec)) softRootCard

/-- THE TIED CARD OF 'plumblinelaw03.DyadOf'. -/
def dyadOfCard : Claim7 := { stood := { row := dyadOfRow, standIns := [], harness := (true, "61070647f8d9791b51fb83ce003353c80c149e922b72857e7b008207f4cadf80"), looks := false }, kinds := [], alts := [], laidByText := true, laidKinds := [.data, .data, .data, .data, .pinned], laidTests := true, laidLooks := .later }
def DyadOfCardSaid : Prop := Claim7.holds Tryz.pinned (.plain (OpenSpec.ofChange dyadOfSpec)) dyadOfCard

/-- THE TIED CARD OF 'plumblinelaw03.DyadWholes'. -/
def dyadWholesCard : Claim7 := { stood := { row := dyadWholesRow, standIns := [], harness := (true, "61070647f8d9791b51fb83ce003353c80c149e922b72857e7b008207f4cadf80"), looks := false }, kinds := [], alts := [], laidByText := true, laidKinds := [.data, .data, .data, .data, .pinned], laidTests := true, laidLooks := .later }
def DyadWholesCardSaid : Prop := Claim7.holds Tryz.pinned (.plain (OpenSpec.ofChange dyadWholesSpec)) dyadWholesCard

/-- THE TIED CARD OF 'plumblinelaw03.DyadAdds'. -/
def dyadAddsCard : Claim7 := { stood := { row := dyadAddsRow, standIns := [], harness := (true, "61070647f8d9791b51fb83ce003353c80c149e922b72857e7b008207f4cadf80"), looks := false }, kinds := [], alts := [], laidByText := true, laidKinds := [.data, .data, .data, .data, .pinned], laidTests := true, laidLooks := .later }
def DyadAddsCardSaid : Prop := Claim7.holds Tryz.pinned (.plain (OpenSpec.ofChange dyadAddsSpec)) dyadAddsCard

/-- THE TIED CARD OF 'plumblinelaw03.DyadSubs'. -/
def dyadSubsCard : Claim7 := { stood := { row := dyadSubsRow, standIns := [], harness := (true, "61070647f8d9791b51fb83ce003353c80c149e922b72857e7b008207f4cadf80"), looks := false }, kinds := [], alts := [], laidByText := true, laidKinds := [.data, .data, .data, .data, .pinned], laidTests := true, laidLooks := .later }
def DyadSubsCardSaid : Prop := Claim7.holds Tryz.pinned (.plain (OpenSpec.ofChange dyadSubsSpec)) dyadSubsCard

/-- THE TIED CARD OF 'plumblinelaw03.DyadMuls'. -/
def dyadMulsCard : Claim7 := { stood := { row := dyadMulsRow, standIns := [], harness := (true, "61070647f8d9791b51fb83ce003353c80c149e922b72857e7b008207f4cadf80"), looks := false }, kinds := [], alts := [], laidByText := true, laidKinds := [.data, .data, .data, .data, .pinned], laidTests := true, laidLooks := .later }
def DyadMulsCardSaid : Prop := Claim7.holds Tryz.pinned (.plain (OpenSpec.ofChange dyadMulsSpec)) dyadMulsCard

/-- THE TIED CARD OF 'plumblinelaw03.DyadMachine'. -/
def dyadMachineCard : Claim7 := { stood := { row := dyadMachineRow, standIns := [], harness := (true, "61070647f8d9791b51fb83ce003353c80c149e922b72857e7b008207f4cadf80"), looks := false }, kinds := [], alts := [], laidByText := true, laidKinds := [.data, .data, .data, .data, .pinned], laidTests := true, laidLooks := .later }
def DyadMachineCardSaid : Prop := Claim7.holds Tryz.pinned (.plain (OpenSpec.ofChange dyadMachineSpec)) dyadMachineCard

/-- THE TIED CARD OF 'plumblinelaw03.DyadRings'. -/
def dyadRingsCard : Claim7 := { stood := { row := dyadRingsRow, standIns := [], harness := (true, "61070647f8d9791b51fb83ce003353c80c149e922b72857e7b008207f4cadf80"), looks := false }, kinds := [], alts := [], laidByText := true, laidKinds := [.data, .data, .data, .data, .pinned], laidTests := true, laidLooks := .later }
def DyadRingsCardSaid : Prop := Claim7.holds Tryz.pinned (.plain (OpenSpec.ofChange dyadRingsSpec)) dyadRingsCard

/-- THE TIED CARD OF 'plumblinelaw03.DyadShifts'. -/
def dyadShiftsCard : Claim7 := { stood := { row := dyadShiftsRow, standIns := [], harness := (true, "61070647f8d9791b51fb83ce003353c80c149e922b72857e7b008207f4cadf80"), looks := false }, kinds := [], alts := [], laidByText := true, laidKinds := [.data, .data, .data, .data, .pinned], laidTests := true, laidLooks := .later }
def DyadShiftsCardSaid : Prop := Claim7.holds Tryz.pinned (.plain (OpenSpec.ofChange dyadShiftsSpec)) dyadShiftsCard

/-- THE TIED CARD OF 'plumblinelaw03.DyadMay'. -/
def dyadMayCard : Claim7 := { stood := { row := dyadMayRow, standIns := [], harness := (true, "61070647f8d9791b51fb83ce003353c80c149e922b72857e7b008207f4cadf80"), looks := false }, kinds := [], alts := [], laidByText := true, laidKinds := [.data, .data, .data, .data, .pinned], laidTests := true, laidLooks := .later }
def DyadMayCardSaid : Prop := Claim7.holds Tryz.pinned (.plain (OpenSpec.ofChange dyadMaySpec)) dyadMayCard

/-- THE TIED CARD OF 'plumblinelaw03.DyadBounds'. -/
def dyadBoundsCard : Claim7 := { stood := { row := dyadBoundsRow, standIns := [], harness := (true, "61070647f8d9791b51fb83ce003353c80c149e922b72857e7b008207f4cadf80"), looks := false }, kinds := [], alts := [], laidByText := true, laidKinds := [.data, .data, .data, .data, .pinned], laidTests := true, laidLooks := .later }
def DyadBoundsCardSaid : Prop := Claim7.holds Tryz.pinned (.plain (OpenSpec.ofChange dyadBoundsSpec)) dyadBoundsCard

/-- THE TIED CARD OF 'plumblinelaw03.DyadSums'. -/
def dyadSumsCard : Claim7 := { stood := { row := dyadSumsRow, standIns := [], harness := (true, "61070647f8d9791b51fb83ce003353c80c149e922b72857e7b008207f4cadf80"), looks := false }, kinds := [], alts := [], laidByText := true, laidKinds := [.data, .data, .data, .data, .pinned], laidTests := true, laidLooks := .later }
def DyadSumsCardSaid : Prop := Claim7.holds Tryz.pinned (.plain (OpenSpec.ofChange dyadSumsSpec)) dyadSumsCard

/-- THE SECOND FORM's CARD OF 'plumblinelaw04.SoftQuot'. -/
def softQuotUptoCard : Claim7 := { stood := { row := softQuotUptoRow, standIns := [], harness := (true, "61070647f8d9791b51fb83ce003353c80c149e922b72857e7b008207f4cadf80"), looks := false }, kinds := [], alts := [], laidByText := true, laidKinds := [.data], laidTests := true, laidLooks := .later }
def SoftQuotUptoCardSaid : Prop := Claim7.holds Tryz.pinned (.plain (OpenSpec.upto softQuotSpec)) softQuotUptoCard

/-- THE SECOND FORM's CARD OF 'plumblinelaw04.SoftRoot'. -/
def softRootUptoCard : Claim7 := { stood := { row := softRootUptoRow, standIns := [], harness := (true, "61070647f8d9791b51fb83ce003353c80c149e922b72857e7b008207f4cadf80"), looks := false }, kinds := [], alts := [], laidByText := true, laidKinds := [.data], laidTests := true, laidLooks := .later }
def SoftRootUptoCardSaid : Prop := Claim7.holds Tryz.pinned (.plain (OpenSpec.upto softRootSpec)) softRootUptoCard

/-- THE SECOND FORM's CARD OF 'plumblinelaw03.DyadOf'. -/
def dyadOfUptoCard : Claim7 := { stood := { row := dyadOfUptoRow, standIns := [], harness := (true, "61070647f8d9791b51fb83ce003353c80c149e922b72857e7b008207f4cadf80"), looks := false }, kinds := [], alts := [], laidByText := true, laidKinds := [.data, .data, .data, .data, .pinned], laidTests := true, laidLooks := .later }
def DyadOfUptoCardSaid : Prop := Claim7.holds Tryz.pinned (.plain (OpenSpec.upto dyadOfSpec)) dyadOfUptoCard

/-- THE SECOND FORM's CARD OF 'plumblinelaw03.DyadWholes'. -/
def dyadWholesUptoCard : Claim7 := { stood := { row := dyadWholesUptoRow, standIns := [], harness := (true, "61070647f8d9791b51fb83ce003353c80c149e922b72857e7b008207f4cadf80"), looks := false }, kinds := [], alts := [], laidByText := true, laidKinds := [.data, .data, .data, .data, .pinned], laidTests := true, laidLooks := .later }
def DyadWholesUptoCardSaid : Prop := Claim7.holds Tryz.pinned (.plain (OpenSpec.upto dyadWholesSpec)) dyadWholesUptoCard

/-- THE SECOND FORM's CARD OF 'plumblinelaw03.DyadAdds'. -/
def dyadAddsUptoCard : Claim7 := { stood := { row := dyadAddsUptoRow, standIns := [], harness := (true, "61070647f8d9791b51fb83ce003353c80c149e922b72857e7b008207f4cadf80"), looks := false }, kinds := [], alts := [], laidByText := true, laidKinds := [.data, .data, .data, .data, .pinned], laidTests := true, laidLooks := .later }
def DyadAddsUptoCardSaid : Prop := Claim7.holds Tryz.pinned (.plain (OpenSpec.upto dyadAddsSpec)) dyadAddsUptoCard

/-- THE SECOND FORM's CARD OF 'plumblinelaw03.DyadSubs'. -/
def dyadSubsUptoCard : Claim7 := { stood := { row := dyadSubsUptoRow, standIns := [], harness := (true, "61070647f8d9791b51fb83ce003353c80c149e922b72857e7b008207f4cadf80"), looks := false }, kinds := [], alts := [], laidByText := true, laidKinds := [.data, .data, .data, .data, .pinned], laidTests := true, laidLooks := .later }
def DyadSubsUptoCardSaid : Prop := Claim7.holds Tryz.pinned (.plain (OpenSpec.upto dyadSubsSpec)) dyadSubsUptoCard

/-- THE SECOND FORM's CARD OF 'plumblinelaw03.DyadMuls'. -/
def dyadMulsUptoCard : Claim7 := { stood := { row := dyadMulsUptoRow, standIns := [], harness := (true, "61070647f8d9791b51fb83ce003353c80c149e922b72857e7b008207f4cadf80"), looks := false }, kinds := [], alts := [], laidByText := true, laidKinds := [.data, .data, .data, .data, .pinned], laidTests := true, laidLooks := .later }
def DyadMulsUptoCardSaid : Prop := Claim7.holds Tryz.pinned (.plain (OpenSpec.upto dyadMulsSpec)) dyadMulsUptoCard

/-- THE SECOND FORM's CARD OF 'plumblinelaw03.DyadMachine'. -/
def dyadMachineUptoCard : Claim7 := { stood := { row := dyadMachineUptoRow, standIns := [], harness := (true, "61070647f8d9791b51fb83ce003353c80c149e922b72857e7b008207f4cadf80"), looks := false }, kinds := [], alts := [], laidByText := true, laidKinds := [.data, .data, .data, .data, .pinned], laidTests := true, laidLooks := .later }
def DyadMachineUptoCardSaid : Prop := Claim7.holds Tryz.pinned (.plain (OpenSpec.upto dyadMachineSpec)) dyadMachineUptoCard

/-- THE SECOND FORM's CARD OF 'plumblinelaw03.DyadRings'. -/
def dyadRingsUptoCard : Claim7 := { stood := { row := dyadRingsUptoRow, standIns := [], harness := (true, "61070647f8d9791b51fb83ce003353c80c149e922b72857e7b008207f4cadf80"), looks := false }, kinds := [], alts := [], laidByText := true, laidKinds := [.data, .data, .data, .data, .pinned], laidTests := true, laidLooks := .later }
def DyadRingsUptoCardSaid : Prop := Claim7.holds Tryz.pinned (.plain (OpenSpec.upto dyadRingsSpec)) dyadRingsUptoCard

/-- THE SECOND FORM's CARD OF 'plumblinelaw03.DyadShifts'. -/
def dyadShiftsUptoCard : Claim7 := { stood := { row := dyadShiftsUptoRow, standIns := [], harness := (true, "61070647f8d9791b51fb83ce003353c80c149e922b72857e7b008207f4cadf80"), looks := false }, kinds := [], alts := [], laidByText := true, laidKinds := [.data, .data, .data, .data, .pinned], laidTests := true, laidLooks := .later }
def DyadShiftsUptoCardSaid : Prop := Claim7.holds Tryz.pinned (.plain (OpenSpec.upto dyadShiftsSpec)) dyadShiftsUptoCard

/-- THE SECOND FORM's CARD OF 'plumblinelaw03.DyadMay'. -/
def dyadMayUptoCard : Claim7 := { stood := { row := dyadMayUptoRow, standIns := [], harness := (true, "61070647f8d9791b51fb83ce003353c80c149e922b72857e7b008207f4cadf80"), looks := false }, kinds := [], alts := [], laidByText := true, laidKinds := [.data, .data, .data, .data, .pinned], laidTests := true, laidLooks := .later }
def DyadMayUptoCardSaid : Prop := Claim7.holds Tryz.pinned (.plain (OpenSpec.upto dyadMaySpec)) dyadMayUptoCard

/-- THE SECOND FORM's CARD OF 'plumblinelaw03.DyadBounds'. -/
def dyadBoundsUptoCard : Claim7 := { stood := { row := dyadBoundsUptoRow, standIns := [], harness := (true, "61070647f8d9791b51fb83ce003353c80c149e922b72857e7b008207f4cadf80"), looks := false }, kinds := [], alts := [], laidByText := true, laidKinds := [.data, .data, .data, .data, .pinned], laidTests := true, laidLooks := .later }
def DyadBoundsUptoCardSaid : Prop := Claim7.holds Tryz.pinned (.plain (OpenSpec.upto dyadBoundsSpec)) dyadBoundsUptoCard

/-- THE SECOND FORM's CARD OF 'plumblinelaw03.DyadSums'. -/
def dyadSumsUptoCard : Claim7 := { stood := { row := dyadSumsUptoRow, standIns := [], harness := (true, "61070647f8d9791b51fb83ce003353c80c149e922b72857e7b008207f4cadf80"), looks := false }, kinds := [], alts := [], laidByText := true, laidKinds := [.data, .data, .data, .data, .pinned], laidTests := true, laidLooks := .later }
def DyadSumsUptoCardSaid : Prop := Claim7.holds Tryz.pinned (.plain (OpenSpec.upto dyadSumsSpec)) dyadSumsUptoCard
end Rows
end Go.Proofs.YtjlaadadbpffdaaGreatDoor
