/-
  DERIVED. GIVEN WITH THE SEED: THE CARDS: each row of YtoccfgkblognfaaDoorRows.lean that lists a variable, with what it lists TIED to the program's text (the seventh form; the later family's looks); each row that meets fmt, with fmt's text TOLD by the authors' own Lean function (tested against real Go, not proved from fmt's source: count such statements apart). THE CARD IS WHAT COUNTS. Prove the row's statement (the work); the ties are given (YtoccfgkblognfaaDoorTie.lean); close each card by the builder's one call (the guide's Derived/Test/ToyasCard.lean, 'card_holds'). Laid BY PROGRAM, IN A SANDBOX (cutbox-door.mjs). By AI agents, Wed Nov 11 2026. No macro, syntax, notation, axiom, sorry.
-/
import Derived.Test.YtoccfgkblognfaaDoorRows
import GoSem.ClaimSeven
namespace Go.Proofs.YtoccfgkblognfaaDoor
namespace Rows

/-- THE TIED CARD OF 'racewaylaw03.DigestOf'. -/
def digestOfCard : Claim7 := { stood := { row := digestOfRow, standIns := [], harness := (true, "f911e6f703d595034bbf6d34eca82ae2b4a6fc477e9faf6789bf5dfca933f7a6"), looks := false }, kinds := [], alts := [], laidByText := true, laidKinds := [.data], laidTests := true, laidLooks := .later }
def DigestOfCardSaid : Prop := Claim7.holds Tryd.pinned (.plain (OpenSpec.ofChange digestOfSpec)) digestOfCard

/-- THE TIED CARD OF 'racewaylaw03.DigestEdges'. -/
def digestEdgesCard : Claim7 := { stood := { row := digestEdgesRow, standIns := [], harness := (true, "f911e6f703d595034bbf6d34eca82ae2b4a6fc477e9faf6789bf5dfca933f7a6"), looks := false }, kinds := [], alts := [], laidByText := true, laidKinds := [.data], laidTests := true, laidLooks := .later }
def DigestEdgesCardSaid : Prop := Claim7.holds Tryd.pinned (.plain (OpenSpec.ofChange digestEdgesSpec)) digestEdgesCard

/-- THE TIED CARD OF 'racewaylaw03.DigestTokens'. -/
def digestTokensCard : Claim7 := { stood := { row := digestTokensRow, standIns := [], harness := (true, "f911e6f703d595034bbf6d34eca82ae2b4a6fc477e9faf6789bf5dfca933f7a6"), looks := false }, kinds := [], alts := [], laidByText := true, laidKinds := [.data], laidTests := true, laidLooks := .later }
def DigestTokensCardSaid : Prop := Claim7.holds Tryd.pinned (.plain (OpenSpec.ofChange digestTokensSpec)) digestTokensCard

/-- THE TIED CARD OF 'racewaylaw03.DigestAlone'. -/
def digestAloneCard : Claim7 := { stood := { row := digestAloneRow, standIns := [], harness := (true, "f911e6f703d595034bbf6d34eca82ae2b4a6fc477e9faf6789bf5dfca933f7a6"), looks := false }, kinds := [], alts := [], laidByText := true, laidKinds := [.data], laidTests := true, laidLooks := .later }
def DigestAloneCardSaid : Prop := Claim7.holds Tryd.pinned (.plain (OpenSpec.ofChange digestAloneSpec)) digestAloneCard

/-- THE TIED CARD OF 'racewaylaw03.DigestPieces'. -/
def digestPiecesCard : Claim7 := { stood := { row := digestPiecesRow, standIns := [], harness := (true, "f911e6f703d595034bbf6d34eca82ae2b4a6fc477e9faf6789bf5dfca933f7a6"), looks := false }, kinds := [], alts := [], laidByText := true, laidKinds := [.data], laidTests := true, laidLooks := .later }
def DigestPiecesCardSaid : Prop := Claim7.holds Tryd.pinned (.plain (OpenSpec.ofChange digestPiecesSpec)) digestPiecesCard

/-- THE TIED CARD OF 'racewaylaw03.DigestCopies'. -/
def digestCopiesCard : Claim7 := { stood := { row := digestCopiesRow, standIns := [], harness := (true, "f911e6f703d595034bbf6d34eca82ae2b4a6fc477e9faf6789bf5dfca933f7a6"), looks := false }, kinds := [], alts := [], laidByText := true, laidKinds := [.data], laidTests := true, laidLooks := .later }
def DigestCopiesCardSaid : Prop := Claim7.holds Tryd.pinned (.plain (OpenSpec.ofChange digestCopiesSpec)) digestCopiesCard

/-- THE SECOND FORM's CARD OF 'racewaylaw03.DigestOf'. -/
def digestOfUptoCard : Claim7 := { stood := { row := digestOfUptoRow, standIns := [], harness := (true, "f911e6f703d595034bbf6d34eca82ae2b4a6fc477e9faf6789bf5dfca933f7a6"), looks := false }, kinds := [], alts := [], laidByText := true, laidKinds := [.data], laidTests := true, laidLooks := .later }
def DigestOfUptoCardSaid : Prop := Claim7.holds Tryd.pinned (.plain (OpenSpec.upto digestOfSpec)) digestOfUptoCard

/-- THE SECOND FORM's CARD OF 'racewaylaw03.DigestEdges'. -/
def digestEdgesUptoCard : Claim7 := { stood := { row := digestEdgesUptoRow, standIns := [], harness := (true, "f911e6f703d595034bbf6d34eca82ae2b4a6fc477e9faf6789bf5dfca933f7a6"), looks := false }, kinds := [], alts := [], laidByText := true, laidKinds := [.data], laidTests := true, laidLooks := .later }
def DigestEdgesUptoCardSaid : Prop := Claim7.holds Tryd.pinned (.plain (OpenSpec.upto digestEdgesSpec)) digestEdgesUptoCard

/-- THE SECOND FORM's CARD OF 'racewaylaw03.DigestTokens'. -/
def digestTokensUptoCard : Claim7 := { stood := { row := digestTokensUptoRow, standIns := [], harness := (true, "f911e6f703d595034bbf6d34eca82ae2b4a6fc477e9faf6789bf5dfca933f7a6"), looks := false }, kinds := [], alts := [], laidByText := true, laidKinds := [.data], laidTests := true, laidLooks := .later }
def DigestTokensUptoCardSaid : Prop := Claim7.holds Tryd.pinned (.plain (OpenSpec.upto digestTokensSpec)) digestTokensUptoCard

/-- THE SECOND FORM's CARD OF 'racewaylaw03.DigestAlone'. -/
def digestAloneUptoCard : Claim7 := { stood := { row := digestAloneUptoRow, standIns := [], harness := (true, "f911e6f703d595034bbf6d34eca82ae2b4a6fc477e9faf6789bf5dfca933f7a6"), looks := false }, kinds := [], alts := [], laidByText := true, laidKinds := [.data], laidTests := true, laidLooks := .later }
def DigestAloneUptoCardSaid : Prop := Claim7.holds Tryd.pinned (.plain (OpenSpec.upto digestAloneSpec)) digestAloneUptoCard

/-- THE SECOND FORM's CARD OF 'racewaylaw03.DigestPieces'. -/
def digestPiecesUptoCard : Claim7 := { stood := { row := digestPiecesUptoRow, standIns := [], harness := (true, "f911e6f703d595034bbf6d34eca82ae2b4a6fc477e9faf6789bf5dfca933f7a6"), looks := false }, kinds := [], alts := [], laidByText := true, laidKinds := [.data], laidTests := true, laidLooks := .later }
def DigestPiecesUptoCardSaid : Prop := Claim7.holds Tryd.pinned (.plain (OpenSpec.upto digestPiecesSpec)) digestPiecesUptoCard

/-- THE SECOND FORM's CARD OF 'racewaylaw03.DigestCopies'. -/
def digestCopiesUptoCard : Claim7 := { stood := { row := digestCopiesUptoRow, standIns := [], harness := (true, "f911e6f703d595034bbf6d34eca82ae2b4a6fc477e9faf6789bf5dfca933f7a6"), looks := false }, kinds := [], alts := [], laidByText := true, laidKinds := [.data], laidTests := true, laidLooks := .later }
def DigestCopiesUptoCardSaid : Prop := Claim7.holds Tryd.pinned (.plain (OpenSpec.upto digestCopiesSpec)) digestCopiesUptoCard
end Rows
end Go.Proofs.YtoccfgkblognfaaDoor
