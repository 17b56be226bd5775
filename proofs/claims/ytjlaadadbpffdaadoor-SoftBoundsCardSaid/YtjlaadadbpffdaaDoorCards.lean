/-
  DERIVED. GIVEN WITH THE SEED: THE CARDS: each row of YtjlaadadbpffdaaDoorRows.lean that lists a variable, with what it lists TIED to the program's text (the seventh form; the later family's looks); each row that meets fmt, with fmt's text TOLD by the authors' own Lean function (tested against real Go, not proved from fmt's source: count such statements apart). THE CARD IS WHAT COUNTS. Prove the row's statement (the work); the ties are given (YtjlaadadbpffdaaDoorTie.lean); close each card by the builder's one call (the guide's Derived/Test/ToyasCard.lean, 'card_holds'). Laid BY PROGRAM, IN A SANDBOX (cutbox-door.mjs). By AI agents, Wed Nov 11 2026. No macro, syntax, notation, axiom, sorry.
-/
import Derived.Test.YtjlaadadbpffdaaDoorRows
import GoSem.ClaimSeven
namespace Go.Proofs.YtjlaadadbpffdaaDoor
namespace Rows

/-- THE TIED CARD OF 'plumblinelaw04.SoftAdd'. -/
def softAddCard : Claim7 := { stood := { row := softAddRow, standIns := [], harness := (true, "c8d6122299dc574db73572e6e33fd7b26b23b1684de962d9a1c8649d37ee88ad"), looks := false }, kinds := [], alts := [], laidByText := true, laidKinds := [.data], laidTests := true, laidLooks := .later }
def SoftAddCardSaid : Prop := Claim7.holds Tryd.pinned (.plain (OpenSpec.ofChange softAddSpec)) softAddCard

/-- THE TIED CARD OF 'plumblinelaw04.SoftMul'. -/
def softMulCard : Claim7 := { stood := { row := softMulRow, standIns := [], harness := (true, "c8d6122299dc574db73572e6e33fd7b26b23b1684de962d9a1c8649d37ee88ad"), looks := false }, kinds := [], alts := [], laidByText := true, laidKinds := [.data], laidTests := true, laidLooks := .later }
def SoftMulCardSaid : Prop := Claim7.holds Tryd.pinned (.plain (OpenSpec.ofChange softMulSpec)) softMulCard

/-- THE TIED CARD OF 'plumblinelaw04.SoftDiv'. -/
def softDivCard : Claim7 := { stood := { row := softDivRow, standIns := [], harness := (true, "c8d6122299dc574db73572e6e33fd7b26b23b1684de962d9a1c8649d37ee88ad"), looks := false }, kinds := [], alts := [], laidByText := true, laidKinds := [.data], laidTests := true, laidLooks := .later }
def SoftDivCardSaid : Prop := Claim7.holds Tryd.pinned (.plain (OpenSpec.ofChange softDivSpec)) softDivCard

/-- THE TIED CARD OF 'plumblinelaw04.SoftSub'. -/
def softSubCard : Claim7 := { stood := { row := softSubRow, standIns := [], harness := (true, "c8d6122299dc574db73572e6e33fd7b26b23b1684de962d9a1c8649d37ee88ad"), looks := false }, kinds := [], alts := [], laidByText := true, laidKinds := [.data], laidTests := true, laidLooks := .later }
def SoftSubCardSaid : Prop := Claim7.holds Tryd.pinned (.plain (OpenSpec.ofChange softSubSpec)) softSubCard

/-- THE TIED CARD OF 'plumblinelaw04.SoftSqrt'. -/
def softSqrtCard : Claim7 := { stood := { row := softSqrtRow, standIns := [], harness := (true, "c8d6122299dc574db73572e6e33fd7b26b23b1684de962d9a1c8649d37ee88ad"), looks := false }, kinds := [], alts := [], laidByText := true, laidKinds := [.data], laidTests := true, laidLooks := .later }
def SoftSqrtCardSaid : Prop := Claim7.holds Tryd.pinned (.plain (OpenSpec.ofChange softSqrtSpec)) softSqrtCard

/-- THE TIED CARD OF 'plumblinelaw04.SoftBounds'. -/
def softBoundsCard : Claim7 := { stood := { row := softBoundsRow, standIns := [], harness := (true, "c8d6122299dc574db73572e6e33fd7b26b23b1684de962d9a1c8649d37ee88ad"), looks := false }, kinds := [], alts := [], laidByText := true, laidKinds := [.data], laidTests := true, laidLooks := .later }
def SoftBoundsCardSaid : Prop := Claim7.holds Tryd.pinned (.plain (OpenSpec.ofChange softBoundsSpec)) softBoundsCard

/-- THE TIED CARD OF 'plumblinelaw04.SoftFma'. -/
def softFmaCard : Claim7 := { stood := { row := softFmaRow, standIns := [], harness := (true, "c8d6122299dc574db73572e6e33fd7b26b23b1684de962d9a1c8649d37ee88ad"), looks := false }, kinds := [], alts := [], laidByText := true, laidKinds := [.data], laidTests := true, laidLooks := .later }
def SoftFmaCardSaid : Prop := Claim7.holds Tryd.pinned (.plain (OpenSpec.ofChange softFmaSpec)) softFmaCard

/-- THE SECOND FORM's CARD OF 'plumblinelaw04.SoftAdd'. -/
def softAddUptoCard : Claim7 := { stood := { row := softAddUptoRow, standIns := [], harness := (true, "c8d6122299dc574db73572e6e33fd7b26b23b1684de962d9a1c8649d37ee88ad"), looks := false }, kinds := [], alts := [], laidByText := true, laidKinds := [.data], laidTests := true, laidLooks := .later }
def SoftAddUptoCardSaid : Prop := Claim7.holds Tryd.pinned (.plain (OpenSpec.upto softAddSpec)) softAddUptoCard

/-- THE SECOND FORM's CARD OF 'plumblinelaw04.SoftMul'. -/
def softMulUptoCard : Claim7 := { stood := { row := softMulUptoRow, standIns := [], harness := (true, "c8d6122299dc574db73572e6e33fd7b26b23b1684de962d9a1c8649d37ee88ad"), looks := false }, kinds := [], alts := [], laidByText := true, laidKinds := [.data], laidTests := true, laidLooks := .later }
def SoftMulUptoCardSaid : Prop := Claim7.holds Tryd.pinned (.plain (OpenSpec.upto softMulSpec)) softMulUptoCard

/-- THE SECOND FORM's CARD OF 'plumblinelaw04.SoftDiv'. -/
def softDivUptoCard : Claim7 := { stood := { row := softDivUptoRow, standIns := [], harness := (true, "c8d6122299dc574db73572e6e33fd7b26b23b1684de962d9a1c8649d37ee88ad"), looks := false }, kinds := [], alts := [], laidByText := true, laidKinds := [.data], laidTests := true, laidLooks := .later }
def SoftDivUptoCardSaid : Prop := Claim7.holds Tryd.pinned (.plain (OpenSpec.upto softDivSpec)) softDivUptoCard

/-- THE SECOND FORM's CARD OF 'plumblinelaw04.SoftSub'. -/
def softSubUptoCard : Claim7 := { stood := { row := softSubUptoRow, standIns := [], harness := (true, "c8d6122299dc574db73572e6e33fd7b26b23b1684de962d9a1c8649d37ee88ad"), looks := false }, kinds := [], alts := [], laidByText := true, laidKinds := [.data], laidTests := true, laidLooks := .later }
def SoftSubUptoCardSaid : Prop := Claim7.holds Tryd.pinned (.plain (OpenSpec.upto softSubSpec)) softSubUptoCard

/-- THE SECOND FORM's CARD OF 'plumblinelaw04.SoftSqrt'. -/
def softSqrtUptoCard : Claim7 := { stood := { row := softSqrtUptoRow, standIns := [], harness := (true, "c8d6122299dc574db73572e6e33fd7b26b23b1684de962d9a1c8649d37ee88ad"), looks := false }, kinds := [], alts := [], laidByText := true, laidKinds := [.data], laidTests := true, laidLooks := .later }
def SoftSqrtUptoCardSaid : Prop := Claim7.holds Tryd.pinned (.plain (OpenSpec.upto softSqrtSpec)) softSqrtUptoCard

/-- THE SECOND FORM's CARD OF 'plumblinelaw04.SoftBounds'. -/
def softBoundsUptoCard : Claim7 := { stood := { row := softBoundsUptoRow, standIns := [], harness := (true, "c8d6122299dc574db73572e6e33fd7b26b23b1684de962d9a1c8649d37ee88ad"), looks := false }, kinds := [], alts := [], laidByText := true, laidKinds := [.data], laidTests := true, laidLooks := .later }
def SoftBoundsUptoCardSaid : Prop := Claim7.holds Tryd.pinned (.plain (OpenSpec.upto softBoundsSpec)) softBoundsUptoCard

/-- THE SECOND FORM's CARD OF 'plumblinelaw04.SoftFma'. -/
def softFmaUptoCard : Claim7 := { stood := { row := softFmaUptoRow, standIns := [], harness := (true, "c8d6122299dc574db73572e6e33fd7b26b23b1684de962d9a1c8649d37ee88ad"), looks := false }, kinds := [], alts := [], laidByText := true, laidKinds := [.data], laidTests := true, laidLooks := .later }
def SoftFmaUptoCardSaid : Prop := Claim7.holds Tryd.pinned (.plain (OpenSpec.upto softFmaSpec)) softFmaUptoCard
end Rows
end Go.Proofs.YtjlaadadbpffdaaDoor
