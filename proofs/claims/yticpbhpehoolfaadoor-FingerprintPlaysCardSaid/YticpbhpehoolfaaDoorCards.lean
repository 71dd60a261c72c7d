/-
  DERIVED. GIVEN WITH THE SEED: THE CARDS: each row of YticpbhpehoolfaaDoorRows.lean that lists a variable, with what it lists TIED to the program's text (the seventh form; the later family's looks); each row that meets fmt, with fmt's text TOLD by the authors' own Lean function (tested against real Go, not proved from fmt's source: count such statements apart). THE CARD IS WHAT COUNTS. Prove the row's statement (the work); the ties are given (YticpbhpehoolfaaDoorTie.lean); close each card by the builder's one call (the guide's Derived/Test/ToyasCard.lean, 'card_holds'). Laid BY PROGRAM, IN A SANDBOX (cutbox-door.mjs). By AI agents, Wed Nov 11 2026. No macro, syntax, notation, axiom, sorry.
-/
import Derived.Test.YticpbhpehoolfaaDoorRows
import GoSem.ClaimSeven
namespace Go.Proofs.YticpbhpehoolfaaDoor
namespace Rows

/-- THE TIED CARD OF 'racewaylaw23.FingerprintOf'. -/
def fingerprintOfCard : Claim7 := { stood := { row := fingerprintOfRow, standIns := [], harness := (true, "906ba7eac2b41855a0aa8687f8e6b2e50531a7021c0c0b877731c1fffeaa9d3c"), looks := false }, kinds := [], alts := [], laidByText := true, laidKinds := [.data, .data], laidTests := true, laidLooks := .later }
def FingerprintOfCardSaid : Prop := Claim7.holds Tryd.pinned (.plain (OpenSpec.ofChange fingerprintOfSpec)) fingerprintOfCard

/-- THE TIED CARD OF 'racewaylaw23.FingerprintPlays'. -/
def fingerprintPlaysCard : Claim7 := { stood := { row := fingerprintPlaysRow, standIns := [], harness := (true, "906ba7eac2b41855a0aa8687f8e6b2e50531a7021c0c0b877731c1fffeaa9d3c"), looks := false }, kinds := [], alts := [], laidByText := true, laidKinds := [.data, .data], laidTests := true, laidLooks := .later }
def FingerprintPlaysCardSaid : Prop := Claim7.holds Tryd.pinned (.plain (OpenSpec.ofChange fingerprintPlaysSpec)) fingerprintPlaysCard

/-- THE TIED CARD OF 'racewaylaw23.FingerprintEdges'. -/
def fingerprintEdgesCard : Claim7 := { stood := { row := fingerprintEdgesRow, standIns := [], harness := (true, "906ba7eac2b41855a0aa8687f8e6b2e50531a7021c0c0b877731c1fffeaa9d3c"), looks := false }, kinds := [], alts := [], laidByText := true, laidKinds := [.data, .data], laidTests := true, laidLooks := .later }
def FingerprintEdgesCardSaid : Prop := Claim7.holds Tryd.pinned (.plain (OpenSpec.ofChange fingerprintEdgesSpec)) fingerprintEdgesCard

/-- THE TIED CARD OF 'racewaylaw23.FingerprintPieces'. -/
def fingerprintPiecesCard : Claim7 := { stood := { row := fingerprintPiecesRow, standIns := [], harness := (true, "906ba7eac2b41855a0aa8687f8e6b2e50531a7021c0c0b877731c1fffeaa9d3c"), looks := false }, kinds := [], alts := [], laidByText := true, laidKinds := [.data, .data], laidTests := true, laidLooks := .later }
def FingerprintPiecesCardSaid : Prop := Claim7.holds Tryd.pinned (.plain (OpenSpec.ofChange fingerprintPiecesSpec)) fingerprintPiecesCard

/-- THE TIED CARD OF 'racewaylaw23.FingerprintHex'. -/
def fingerprintHexCard : Claim7 := { stood := { row := fingerprintHexRow, standIns := [], harness := (true, "906ba7eac2b41855a0aa8687f8e6b2e50531a7021c0c0b877731c1fffeaa9d3c"), looks := false }, kinds := [], alts := [], laidByText := true, laidKinds := [.data, .data], laidTests := true, laidLooks := .later }
def FingerprintHexCardSaid : Prop := Claim7.holds Tryd.pinned (.plain (OpenSpec.ofChange fingerprintHexSpec)) fingerprintHexCard

/-- THE SECOND FORM's CARD OF 'racewaylaw23.FingerprintOf'. -/
def fingerprintOfUptoCard : Claim7 := { stood := { row := fingerprintOfUptoRow, standIns := [], harness := (true, "906ba7eac2b41855a0aa8687f8e6b2e50531a7021c0c0b877731c1fffeaa9d3c"), looks := false }, kinds := [], alts := [], laidByText := true, laidKinds := [.data, .data], laidTests := true, laidLooks := .later }
def FingerprintOfUptoCardSaid : Prop := Claim7.holds Tryd.pinned (.plain (OpenSpec.upto fingerprintOfSpec)) fingerprintOfUptoCard

/-- THE SECOND FORM's CARD OF 'racewaylaw23.FingerprintPlays'. -/
def fingerprintPlaysUptoCard : Claim7 := { stood := { row := fingerprintPlaysUptoRow, standIns := [], harness := (true, "906ba7eac2b41855a0aa8687f8e6b2e50531a7021c0c0b877731c1fffeaa9d3c"), looks := false }, kinds := [], alts := [], laidByText := true, laidKinds := [.data, .data], laidTests := true, laidLooks := .later }
def FingerprintPlaysUptoCardSaid : Prop := Claim7.holds Tryd.pinned (.plain (OpenSpec.upto fingerprintPlaysSpec)) fingerprintPlaysUptoCard

/-- THE SECOND FORM's CARD OF 'racewaylaw23.FingerprintEdges'. -/
def fingerprintEdgesUptoCard : Claim7 := { stood := { row := fingerprintEdgesUptoRow, standIns := [], harness := (true, "906ba7eac2b41855a0aa8687f8e6b2e50531a7021c0c0b877731c1fffeaa9d3c"), looks := false }, kinds := [], alts := [], laidByText := true, laidKinds := [.data, .data], laidTests := true, laidLooks := .later }
def FingerprintEdgesUptoCardSaid : Prop := Claim7.holds Tryd.pinned (.plain (OpenSpec.upto fingerprintEdgesSpec)) fingerprintEdgesUptoCard

/-- THE SECOND FORM's CARD OF 'racewaylaw23.FingerprintPieces'. -/
def fingerprintPiecesUptoCard : Claim7 := { stood := { row := fingerprintPiecesUptoRow, standIns := [], harness := (true, "906ba7eac2b41855a0aa8687f8e6b2e50531a7021c0c0b877731c1fffeaa9d3c"), looks := false }, kinds := [], alts := [], laidByText := true, laidKinds := [.data, .data], laidTests := true, laidLooks := .later }
def FingerprintPiecesUptoCardSaid : Prop := Claim7.holds Tryd.pinned (.plain (OpenSpec.upto fingerprintPiecesSpec)) fingerprintPiecesUptoCard

/-- THE SECOND FORM's CARD OF 'racewaylaw23.FingerprintHex'. -/
def fingerprintHexUptoCard : Claim7 := { stood := { row := fingerprintHexUptoRow, standIns := [], harness := (true, "906ba7eac2b41855a0aa8687f8e6b2e50531a7021c0c0b877731c1fffeaa9d3c"), looks := false }, kinds := [], alts := [], laidByText := true, laidKinds := [.data, .data], laidTests := true, laidLooks := .later }
def FingerprintHexUptoCardSaid : Prop := Claim7.holds Tryd.pinned (.plain (OpenSpec.upto fingerprintHexSpec)) fingerprintHexUptoCard
end Rows
end Go.Proofs.YticpbhpehoolfaaDoor
