/-
  DERIVED. GIVEN WITH THE SEED: THE CARDS: each row of YtfpobpjandjhjaaGreatDoorRows.lean that lists a variable, with what it lists TIED to the program's text (the seventh form; the later family's looks); each row that meets fmt, with fmt's text TOLD by the authors' own Lean function (tested against real Go, not proved from fmt's source: count such statements apart). THE CARD IS WHAT COUNTS. Prove the row's statement (the work); the ties are given (YtfpobpjandjhjaaGreatDoorTie.lean); close each card by the builder's one call (the guide's Derived/Test/ToyasCard.lean, 'card_holds'). Laid BY PROGRAM, IN A SANDBOX (cutbox-door.mjs). By AI agents, Wed Nov 11 2026. No macro, syntax, notation, axiom, sorry.
-/
import Derived.Test.YtfpobpjandjhjaaGreatDoorRows
import GoSem.ClaimSeven
namespace Go.Proofs.YtfpobpjandjhjaaGreatDoor
namespace Rows

/-- THE TIED CARD OF 'probitylaw22.ProofBounds'. -/
def proofBoundsCard : Claim7 := { stood := { row := proofBoundsRow, standIns := [], harness := (true, "72e42edf84f6ea6f8e65a7b732259145e0f44d84da2eb934e8620abc7b48d768"), looks := true }, kinds := [], alts := [], laidByText := true, laidKinds := [.data, .data, .data], laidTests := true, laidLooks := .later }
def ProofBoundsCardSaid : Prop := Claim7.holds Tryz.pinned (.plain (OpenSpec.ofChange proofBoundsSpec)) proofBoundsCard

/-- THE TIED CARD OF 'probitylaw22.ProofLies'. -/
def proofLiesCard : Claim7 := { stood := { row := proofLiesRow, standIns := [], harness := (true, "72e42edf84f6ea6f8e65a7b732259145e0f44d84da2eb934e8620abc7b48d768"), looks := true }, kinds := [], alts := [], laidByText := true, laidKinds := [.data, .data, .data], laidTests := true, laidLooks := .later }
def ProofLiesCardSaid : Prop := Claim7.holds Tryz.pinned (.plain (OpenSpec.ofChange proofLiesSpec)) proofLiesCard

/-- THE TIED CARD OF 'probitylaw22.ProofWhole'. -/
def proofWholeCard : Claim7 := { stood := { row := proofWholeRow, standIns := [], harness := (true, "72e42edf84f6ea6f8e65a7b732259145e0f44d84da2eb934e8620abc7b48d768"), looks := true }, kinds := [], alts := [], laidByText := true, laidKinds := [.data, .data, .data], laidTests := true, laidLooks := .later }
def ProofWholeCardSaid : Prop := Claim7.holds Tryz.pinned (.plain (OpenSpec.ofChange proofWholeSpec)) proofWholeCard

/-- THE TIED CARD OF 'probitylaw22.ProofAccepts'. -/
def proofAcceptsCard : Claim7 := { stood := { row := proofAcceptsRow, standIns := [], harness := (true, "72e42edf84f6ea6f8e65a7b732259145e0f44d84da2eb934e8620abc7b48d768"), looks := true }, kinds := [], alts := [], laidByText := true, laidKinds := [.data, .data, .data], laidTests := true, laidLooks := .later }
def ProofAcceptsCardSaid : Prop := Claim7.holds Tryz.pinned (.plain (OpenSpec.ofChange proofAcceptsSpec)) proofAcceptsCard

/-- THE TIED CARD OF 'probitylaw22.ProofChecks'. -/
def proofChecksCard : Claim7 := { stood := { row := proofChecksRow, standIns := [], harness := (true, "72e42edf84f6ea6f8e65a7b732259145e0f44d84da2eb934e8620abc7b48d768"), looks := true }, kinds := [], alts := [], laidByText := true, laidKinds := [.data, .data, .data], laidTests := true, laidLooks := .later }
def ProofChecksCardSaid : Prop := Claim7.holds Tryz.pinned (.plain (OpenSpec.ofChange proofChecksSpec)) proofChecksCard

/-- THE TIED CARD OF 'probitylaw22.ProofCodes'. -/
def proofCodesCard : Claim7 := { stood := { row := proofCodesRow, standIns := [], harness := (true, "72e42edf84f6ea6f8e65a7b732259145e0f44d84da2eb934e8620abc7b48d768"), looks := true }, kinds := [], alts := [], laidByText := true, laidKinds := [.data, .data, .data, .data, .sentinel, .sentinel, .pinned], laidTests := true, laidLooks := .later }
def ProofCodesCardSaid : Prop := Claim7.holds Tryz.pinned (.plain (OpenSpec.ofChange proofCodesSpec)) proofCodesCard

/-- THE TIED CARD OF 'probitylaw22.ProofKeeps'. -/
def proofKeepsCard : Claim7 := { stood := { row := proofKeepsRow, standIns := [], harness := (true, "72e42edf84f6ea6f8e65a7b732259145e0f44d84da2eb934e8620abc7b48d768"), looks := true }, kinds := [], alts := [], laidByText := true, laidKinds := [.data, .data, .data, .data, .sentinel, .sentinel, .pinned], laidTests := true, laidLooks := .later }
def ProofKeepsCardSaid : Prop := Claim7.holds Tryz.pinned (.plain (OpenSpec.ofChange proofKeepsSpec)) proofKeepsCard

/-- THE SECOND FORM's CARD OF 'probitylaw22.ProofBounds'. -/
def proofBoundsUptoCard : Claim7 := { stood := { row := proofBoundsUptoRow, standIns := [], harness := (true, "72e42edf84f6ea6f8e65a7b732259145e0f44d84da2eb934e8620abc7b48d768"), looks := true }, kinds := [], alts := [], laidByText := true, laidKinds := [.data, .data, .data], laidTests := true, laidLooks := .later }
def ProofBoundsUptoCardSaid : Prop := Claim7.holds Tryz.pinned (.plain (OpenSpec.upto proofBoundsSpec)) proofBoundsUptoCard

/-- THE SECOND FORM's CARD OF 'probitylaw22.ProofLies'. -/
def proofLiesUptoCard : Claim7 := { stood := { row := proofLiesUptoRow, standIns := [], harness := (true, "72e42edf84f6ea6f8e65a7b732259145e0f44d84da2eb934e8620abc7b48d768"), looks := true }, kinds := [], alts := [], laidByText := true, laidKinds := [.data, .data, .data], laidTests := true, laidLooks := .later }
def ProofLiesUptoCardSaid : Prop := Claim7.holds Tryz.pinned (.plain (OpenSpec.upto proofLiesSpec)) proofLiesUptoCard

/-- THE SECOND FORM's CARD OF 'probitylaw22.ProofWhole'. -/
def proofWholeUptoCard : Claim7 := { stood := { row := proofWholeUptoRow, standIns := [], harness := (true, "72e42edf84f6ea6f8e65a7b732259145e0f44d84da2eb934e8620abc7b48d768"), looks := true }, kinds := [], alts := [], laidByText := true, laidKinds := [.data, .data, .data], laidTests := true, laidLooks := .later }
def ProofWholeUptoCardSaid : Prop := Claim7.holds Tryz.pinned (.plain (OpenSpec.upto proofWholeSpec)) proofWholeUptoCard

/-- THE SECOND FORM's CARD OF 'probitylaw22.ProofAccepts'. -/
def proofAcceptsUptoCard : Claim7 := { stood := { row := proofAcceptsUptoRow, standIns := [], harness := (true, "72e42edf84f6ea6f8e65a7b732259145e0f44d84da2eb934e8620abc7b48d768"), looks := true }, kinds := [], alts := [], laidByText := true, laidKinds := [.data, .data, .data], laidTests := true, laidLooks := .later }
def ProofAcceptsUptoCardSaid : Prop := Claim7.holds Tryz.pinned (.plain (OpenSpec.upto proofAcceptsSpec)) proofAcceptsUptoCard

/-- THE SECOND FORM's CARD OF 'probitylaw22.ProofChecks'. -/
def proofChecksUptoCard : Claim7 := { stood := { row := proofChecksUptoRow, standIns := [], harness := (true, "72e42edf84f6ea6f8e65a7b732259145e0f44d84da2eb934e8620abc7b48d768"), looks := true }, kinds := [], alts := [], laidByText := true, laidKinds := [.data, .data, .data], laidTests := true, laidLooks := .later }
def ProofChecksUptoCardSaid : Prop := Claim7.holds Tryz.pinned (.plain (OpenSpec.upto proofChecksSpec)) proofChecksUptoCard

/-- THE SECOND FORM's CARD OF 'probitylaw22.ProofCodes'. -/
def proofCodesUptoCard : Claim7 := { stood := { row := proofCodesUptoRow, standIns := [], harness := (true, "72e42edf84f6ea6f8e65a7b732259145e0f44d84da2eb934e8620abc7b48d768"), looks := true }, kinds := [], alts := [], laidByText := true, laidKinds := [.data, .data, .data, .data, .sentinel, .sentinel, .pinned], laidTests := true, laidLooks := .later }
def ProofCodesUptoCardSaid : Prop := Claim7.holds Tryz.pinned (.plain (OpenSpec.upto proofCodesSpec)) proofCodesUptoCard

/-- THE SECOND FORM's CARD OF 'probitylaw22.ProofKeeps'. -/
def proofKeepsUptoCard : Claim7 := { stood := { row := proofKeepsUptoRow, standIns := [], harness := (true, "72e42edf84f6ea6f8e65a7b732259145e0f44d84da2eb934e8620abc7b48d768"), looks := true }, kinds := [], alts := [], laidByText := true, laidKinds := [.data, .data, .data, .data, .sentinel, .sentinel, .pinned], laidTests := true, laidLooks := .later }
def ProofKeepsUptoCardSaid : Prop := Claim7.holds Tryz.pinned (.plain (OpenSpec.upto proofKeepsSpec)) proofKeepsUptoCard
end Rows
end Go.Proofs.YtfpobpjandjhjaaGreatDoor
