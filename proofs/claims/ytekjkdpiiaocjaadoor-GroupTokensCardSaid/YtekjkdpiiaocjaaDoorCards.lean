/-
  DERIVED. GIVEN WITH THE SEED: THE CARDS: each row of YtekjkdpiiaocjaaDoorRows.lean that lists a variable, with what it lists TIED to the program's text (the seventh form; the later family's looks); each row that meets fmt, with fmt's text TOLD by the authors' own Lean function (tested against real Go, not proved from fmt's source: count such statements apart). THE CARD IS WHAT COUNTS. Prove the row's statement (the work); the ties are given (YtekjkdpiiaocjaaDoorTie.lean); close each card by the builder's one call (the guide's Derived/Test/ToyasCard.lean, 'card_holds'). Laid BY PROGRAM, IN A SANDBOX (cutbox-door.mjs). By AI agents, Wed Nov 11 2026. No macro, syntax, notation, axiom, sorry.
-/
import Derived.Test.YtekjkdpiiaocjaaDoorRows
import GoSem.ClaimSeven
namespace Go.Proofs.YtekjkdpiiaocjaaDoor
namespace Rows

/-- THE TIED CARD OF 'racewaylaw11.GroupBack'. -/
def groupBackCard : Claim7 := { stood := { row := groupBackRow, standIns := [], harness := (true, "468258297219dbe258b53181c7726c1bd2d2216d12c4c21a46ca51dd24c800c3"), looks := false }, kinds := [], alts := [], laidByText := true, laidKinds := [.data], laidTests := true, laidLooks := .later }
def GroupBackCardSaid : Prop := Claim7.holds Tryd.pinned (.plain (OpenSpec.ofChange groupBackSpec)) groupBackCard

/-- THE TIED CARD OF 'racewaylaw11.GroupTokens'. -/
def groupTokensCard : Claim7 := { stood := { row := groupTokensRow, standIns := [], harness := (true, "468258297219dbe258b53181c7726c1bd2d2216d12c4c21a46ca51dd24c800c3"), looks := false }, kinds := [], alts := [], laidByText := true, laidKinds := [.data], laidTests := true, laidLooks := .later }
def GroupTokensCardSaid : Prop := Claim7.holds Tryd.pinned (.plain (OpenSpec.ofChange groupTokensSpec)) groupTokensCard

/-- THE TIED CARD OF 'racewaylaw11.GroupSends'. -/
def groupSendsCard : Claim7 := { stood := { row := groupSendsRow, standIns := [], harness := (true, "468258297219dbe258b53181c7726c1bd2d2216d12c4c21a46ca51dd24c800c3"), looks := false }, kinds := [], alts := [], laidByText := true, laidKinds := [.data], laidTests := true, laidLooks := .later }
def GroupSendsCardSaid : Prop := Claim7.holds Tryd.pinned (.plain (OpenSpec.ofChange groupSendsSpec)) groupSendsCard

/-- THE TIED CARD OF 'racewaylaw11.GroupOrder'. -/
def groupOrderCard : Claim7 := { stood := { row := groupOrderRow, standIns := [], harness := (true, "468258297219dbe258b53181c7726c1bd2d2216d12c4c21a46ca51dd24c800c3"), looks := false }, kinds := [], alts := [], laidByText := true, laidKinds := [.data], laidTests := true, laidLooks := .later }
def GroupOrderCardSaid : Prop := Claim7.holds Tryd.pinned (.plain (OpenSpec.ofChange groupOrderSpec)) groupOrderCard

/-- THE SECOND FORM's CARD OF 'racewaylaw11.GroupBack'. -/
def groupBackUptoCard : Claim7 := { stood := { row := groupBackUptoRow, standIns := [], harness := (true, "468258297219dbe258b53181c7726c1bd2d2216d12c4c21a46ca51dd24c800c3"), looks := false }, kinds := [], alts := [], laidByText := true, laidKinds := [.data], laidTests := true, laidLooks := .later }
def GroupBackUptoCardSaid : Prop := Claim7.holds Tryd.pinned (.plain (OpenSpec.upto groupBackSpec)) groupBackUptoCard

/-- THE SECOND FORM's CARD OF 'racewaylaw11.GroupTokens'. -/
def groupTokensUptoCard : Claim7 := { stood := { row := groupTokensUptoRow, standIns := [], harness := (true, "468258297219dbe258b53181c7726c1bd2d2216d12c4c21a46ca51dd24c800c3"), looks := false }, kinds := [], alts := [], laidByText := true, laidKinds := [.data], laidTests := true, laidLooks := .later }
def GroupTokensUptoCardSaid : Prop := Claim7.holds Tryd.pinned (.plain (OpenSpec.upto groupTokensSpec)) groupTokensUptoCard

/-- THE SECOND FORM's CARD OF 'racewaylaw11.GroupSends'. -/
def groupSendsUptoCard : Claim7 := { stood := { row := groupSendsUptoRow, standIns := [], harness := (true, "468258297219dbe258b53181c7726c1bd2d2216d12c4c21a46ca51dd24c800c3"), looks := false }, kinds := [], alts := [], laidByText := true, laidKinds := [.data], laidTests := true, laidLooks := .later }
def GroupSendsUptoCardSaid : Prop := Claim7.holds Tryd.pinned (.plain (OpenSpec.upto groupSendsSpec)) groupSendsUptoCard

/-- THE SECOND FORM's CARD OF 'racewaylaw11.GroupOrder'. -/
def groupOrderUptoCard : Claim7 := { stood := { row := groupOrderUptoRow, standIns := [], harness := (true, "468258297219dbe258b53181c7726c1bd2d2216d12c4c21a46ca51dd24c800c3"), looks := false }, kinds := [], alts := [], laidByText := true, laidKinds := [.data], laidTests := true, laidLooks := .later }
def GroupOrderUptoCardSaid : Prop := Claim7.holds Tryd.pinned (.plain (OpenSpec.upto groupOrderSpec)) groupOrderUptoCard
end Rows
end Go.Proofs.YtekjkdpiiaocjaaDoor
