/-
  DERIVED. GIVEN WITH THE SEED: THE CARDS: each row of YtgledbghdhjgkaaGreatDoorRows.lean that lists a variable, with what it lists TIED to the program's text (the seventh form; the later family's looks); each row that meets fmt, with fmt's text TOLD by the authors' own Lean function (tested against real Go, not proved from fmt's source: count such statements apart). THE CARD IS WHAT COUNTS. Prove the row's statement (the work); the ties are given (YtgledbghdhjgkaaGreatDoorTie.lean); close each card by the builder's one call (the guide's Derived/Test/ToyasCard.lean, 'card_holds'). Laid BY PROGRAM, IN A SANDBOX (cutbox-door.mjs). By AI agents, Wed Nov 11 2026. No macro, syntax, notation, axiom, sorry.
-/
import Derived.Test.YtgledbghdhjgkaaGreatDoorRows
import GoSem.ClaimSeven
namespace Go.Proofs.YtgledbghdhjgkaaGreatDoor
namespace Rows

/-- THE TIED CARD OF 'plumblinetop.TopZero'. -/
def topZeroCard : Claim7 := { stood := { row := topZeroRow, standIns := [], harness := (true, "d79d419281615880505ee5694ebd53d337804568568ff73c5bae8316975b9077"), looks := false }, kinds := [], alts := [], laidByText := true, laidKinds := [.data], laidTests := true, laidLooks := .later }
def TopZeroCardSaid : Prop := Claim7.holds Tryz.pinned (.plain (OpenSpec.ofChange topZeroSpec)) topZeroCard

/-- THE TIED CARD OF 'plumblinetop.TopSteps'. -/
def topStepsCard : Claim7 := { stood := { row := topStepsRow, standIns := [], harness := (true, "d79d419281615880505ee5694ebd53d337804568568ff73c5bae8316975b9077"), looks := false }, kinds := [], alts := [], laidByText := true, laidKinds := [.data], laidTests := true, laidLooks := .later }
def TopStepsCardSaid : Prop := Claim7.holds Tryz.pinned (.plain (OpenSpec.ofChange topStepsSpec)) topStepsCard

/-- THE TIED CARD OF 'plumblinetop.TopTurned'. -/
def topTurnedCard : Claim7 := { stood := { row := topTurnedRow, standIns := [], harness := (true, "d79d419281615880505ee5694ebd53d337804568568ff73c5bae8316975b9077"), looks := false }, kinds := [], alts := [], laidByText := true, laidKinds := [.data], laidTests := true, laidLooks := .later }
def TopTurnedCardSaid : Prop := Claim7.holds Tryz.pinned (.plain (OpenSpec.ofChange topTurnedSpec)) topTurnedCard

/-- THE SECOND FORM's CARD OF 'plumblinetop.TopZero'. -/
def topZeroUptoCard : Claim7 := { stood := { row := topZeroUptoRow, standIns := [], harness := (true, "d79d419281615880505ee5694ebd53d337804568568ff73c5bae8316975b9077"), looks := false }, kinds := [], alts := [], laidByText := true, laidKinds := [.data], laidTests := true, laidLooks := .later }
def TopZeroUptoCardSaid : Prop := Claim7.holds Tryz.pinned (.plain (OpenSpec.upto topZeroSpec)) topZeroUptoCard

/-- THE SECOND FORM's CARD OF 'plumblinetop.TopSteps'. -/
def topStepsUptoCard : Claim7 := { stood := { row := topStepsUptoRow, standIns := [], harness := (true, "d79d419281615880505ee5694ebd53d337804568568ff73c5bae8316975b9077"), looks := false }, kinds := [], alts := [], laidByText := true, laidKinds := [.data], laidTests := true, laidLooks := .later }
def TopStepsUptoCardSaid : Prop := Claim7.holds Tryz.pinned (.plain (OpenSpec.upto topStepsSpec)) topStepsUptoCard

/-- THE SECOND FORM's CARD OF 'plumblinetop.TopTurned'. -/
def topTurnedUptoCard : Claim7 := { stood := { row := topTurnedUptoRow, standIns := [], harness := (true, "d79d419281615880505ee5694ebd53d337804568568ff73c5bae8316975b9077"), looks := false }, kinds := [], alts := [], laidByText := true, laidKinds := [.data], laidTests := true, laidLooks := .later }
def TopTurnedUptoCardSaid : Prop := Claim7.holds Tryz.pinned (.plain (OpenSpec.upto topTurnedSpec)) topTurnedUptoCard
end Rows
end Go.Proofs.YtgledbghdhjgkaaGreatDoor
