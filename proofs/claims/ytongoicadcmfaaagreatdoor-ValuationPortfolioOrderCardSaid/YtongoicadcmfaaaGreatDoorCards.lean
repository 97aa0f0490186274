/-
  DERIVED. GIVEN WITH THE SEED: THE CARDS: each row of YtongoicadcmfaaaGreatDoorRows.lean that lists a variable, with what it lists TIED to the program's text (the seventh form; the later family's looks); each row that meets fmt, with fmt's text TOLD by the authors' own Lean function (tested against real Go, not proved from fmt's source: count such statements apart). THE CARD IS WHAT COUNTS. Prove the row's statement (the work); the ties are given (YtongoicadcmfaaaGreatDoorTie.lean); close each card by the builder's one call (the guide's Derived/Test/ToyasCard.lean, 'card_holds'). Laid BY PROGRAM, IN A SANDBOX (cutbox-door.mjs). By AI agents, Wed Nov 11 2026. No macro, syntax, notation, axiom, sorry.
-/
import Derived.Test.YtongoicadcmfaaaGreatDoorRows
import GoSem.ClaimSeven
namespace Go.Proofs.YtongoicadcmfaaaGreatDoor
namespace Rows

/-- THE TIED CARD OF 'girolaw33.ValuationEligible'. -/
def valuationEligibleCard : Claim7 := { stood := { row := valuationEligibleRow, standIns := [], harness := (true, "e89902e62b5613a14896053f9b6dc57070dd24ca1d3feea7007f1ae47b716b7e"), looks := true }, kinds := [], alts := [], laidByText := true, laidKinds := [.data, .data, .data], laidTests := true, laidLooks := .later }
def ValuationEligibleCardSaid : Prop := Claim7.holds Tryz.pinned (.plain (OpenSpec.ofChange valuationEligibleSpec)) valuationEligibleCard

/-- THE TIED CARD OF 'girolaw33.ValuationPosition'. -/
def valuationPositionCard : Claim7 := { stood := { row := valuationPositionRow, standIns := [], harness := (true, "e89902e62b5613a14896053f9b6dc57070dd24ca1d3feea7007f1ae47b716b7e"), looks := true }, kinds := [], alts := [], laidByText := true, laidKinds := [.data, .data, .data], laidTests := true, laidLooks := .later }
def ValuationPositionCardSaid : Prop := Claim7.holds Tryz.pinned (.plain (OpenSpec.ofChange valuationPositionSpec)) valuationPositionCard

/-- THE TIED CARD OF 'girolaw33.ValuationPortfolio'. -/
def valuationPortfolioCard : Claim7 := { stood := { row := valuationPortfolioRow, standIns := [], harness := (true, "e89902e62b5613a14896053f9b6dc57070dd24ca1d3feea7007f1ae47b716b7e"), looks := true }, kinds := [], alts := [], laidByText := true, laidKinds := [.data, .data, .data], laidTests := true, laidLooks := .later }
def ValuationPortfolioCardSaid : Prop := Claim7.holds Tryz.pinned (.plain (OpenSpec.ofChange valuationPortfolioSpec)) valuationPortfolioCard

/-- THE TIED CARD OF 'girolaw33.ValuationPortfolioOrder'. -/
def valuationPortfolioOrderCard : Claim7 := { stood := { row := valuationPortfolioOrderRow, standIns := [], harness := (true, "e89902e62b5613a14896053f9b6dc57070dd24ca1d3feea7007f1ae47b716b7e"), looks := true }, kinds := [], alts := [], laidByText := true, laidKinds := [.data, .data, .data], laidTests := true, laidLooks := .later }
def ValuationPortfolioOrderCardSaid : Prop := Claim7.holds Tryz.pinned (.plain (OpenSpec.ofChange valuationPortfolioOrderSpec)) valuationPortfolioOrderCard

/-- THE TIED CARD OF 'girolaw33.ValuationSnapshot'. -/
def valuationSnapshotCard : Claim7 := { stood := { row := valuationSnapshotRow, standIns := [], harness := (true, "e89902e62b5613a14896053f9b6dc57070dd24ca1d3feea7007f1ae47b716b7e"), looks := true }, kinds := [], alts := [], laidByText := true, laidKinds := [.data, .data, .data], laidTests := true, laidLooks := .later }
def ValuationSnapshotCardSaid : Prop := Claim7.holds Tryz.pinned (.plain (OpenSpec.ofChange valuationSnapshotSpec)) valuationSnapshotCard

/-- THE SECOND FORM's CARD OF 'girolaw33.ValuationEligible'. -/
def valuationEligibleUptoCard : Claim7 := { stood := { row := valuationEligibleUptoRow, standIns := [], harness := (true, "e89902e62b5613a14896053f9b6dc57070dd24ca1d3feea7007f1ae47b716b7e"), looks := true }, kinds := [], alts := [], laidByText := true, laidKinds := [.data, .data, .data], laidTests := true, laidLooks := .later }
def ValuationEligibleUptoCardSaid : Prop := Claim7.holds Tryz.pinned (.plain (OpenSpec.upto valuationEligibleSpec)) valuationEligibleUptoCard

/-- THE SECOND FORM's CARD OF 'girolaw33.ValuationPosition'. -/
def valuationPositionUptoCard : Claim7 := { stood := { row := valuationPositionUptoRow, standIns := [], harness := (true, "e89902e62b5613a14896053f9b6dc57070dd24ca1d3feea7007f1ae47b716b7e"), looks := true }, kinds := [], alts := [], laidByText := true, laidKinds := [.data, .data, .data], laidTests := true, laidLooks := .later }
def ValuationPositionUptoCardSaid : Prop := Claim7.holds Tryz.pinned (.plain (OpenSpec.upto valuationPositionSpec)) valuationPositionUptoCard

/-- THE SECOND FORM's CARD OF 'girolaw33.ValuationPortfolio'. -/
def valuationPortfolioUptoCard : Claim7 := { stood := { row := valuationPortfolioUptoRow, standIns := [], harness := (true, "e89902e62b5613a14896053f9b6dc57070dd24ca1d3feea7007f1ae47b716b7e"), looks := true }, kinds := [], alts := [], laidByText := true, laidKinds := [.data, .data, .data], laidTests := true, laidLooks := .later }
def ValuationPortfolioUptoCardSaid : Prop := Claim7.holds Tryz.pinned (.plain (OpenSpec.upto valuationPortfolioSpec)) valuationPortfolioUptoCard

/-- THE SECOND FORM's CARD OF 'girolaw33.ValuationPortfolioOrder'. -/
def valuationPortfolioOrderUptoCard : Claim7 := { stood := { row := valuationPortfolioOrderUptoRow, standIns := [], harness := (true, "e89902e62b5613a14896053f9b6dc57070dd24ca1d3feea7007f1ae47b716b7e"), looks := true }, kinds := [], alts := [], laidByText := true, laidKinds := [.data, .data, .data], laidTests := true, laidLooks := .later }
def ValuationPortfolioOrderUptoCardSaid : Prop := Claim7.holds Tryz.pinned (.plain (OpenSpec.upto valuationPortfolioOrderSpec)) valuationPortfolioOrderUptoCard

/-- THE SECOND FORM's CARD OF 'girolaw33.ValuationSnapshot'. -/
def valuationSnapshotUptoCard : Claim7 := { stood := { row := valuationSnapshotUptoRow, standIns := [], harness := (true, "e89902e62b5613a14896053f9b6dc57070dd24ca1d3feea7007f1ae47b716b7e"), looks := true }, kinds := [], alts := [], laidByText := true, laidKinds := [.data, .data, .data], laidTests := true, laidLooks := .later }
def ValuationSnapshotUptoCardSaid : Prop := Claim7.holds Tryz.pinned (.plain (OpenSpec.upto valuationSnapshotSpec)) valuationSnapshotUptoCard
end Rows
end Go.Proofs.YtongoicadcmfaaaGreatDoor
