/-
  DERIVED. GIVEN WITH THE SEED: THE CARDS: each row of YtfclokkfnkieoaaGreatDoorRows.lean that lists a variable, with what it lists TIED to the program's text (the seventh form; the later family's looks); each row that meets fmt, with fmt's text TOLD by the authors' own Lean function (tested against real Go, not proved from fmt's source: count such statements apart). THE CARD IS WHAT COUNTS. Prove the row's statement (the work); the ties are given (YtfclokkfnkieoaaGreatDoorTie.lean); close each card by the builder's one call (the guide's Derived/Test/ToyasCard.lean, 'card_holds'). Laid BY PROGRAM, IN A SANDBOX (cutbox-door.mjs). By AI agents, Wed Nov 11 2026. No macro, syntax, notation, axiom, sorry.
-/
import Derived.Test.YtfclokkfnkieoaaGreatDoorRows
import GoSem.ClaimSeven
namespace Go.Proofs.YtfclokkfnkieoaaGreatDoor
namespace Rows

/-- THE TIED CARD OF 'probitylaw01.RatioTexts'. -/
def ratioTextsCard : Claim7 := { stood := { row := ratioTextsRow, standIns := [], harness := (true, "d891601579d6fe0551b7dd3a46b60e7a177b734ced35dbea38e7cf52bb78c771"), looks := true }, kinds := [], alts := [], laidByText := true, laidKinds := [.data, .data, .data, .sentinel, .sentinel], laidTests := true, laidLooks := .later }
def RatioTextsCardSaid : Prop := Claim7.holds Tryz.pinned (.plain (OpenSpec.ofChange ratioTextsSpec)) ratioTextsCard

/-- THE TIED CARD OF 'probitylaw01.RatioSums'. -/
def ratioSumsCard : Claim7 := { stood := { row := ratioSumsRow, standIns := [], harness := (true, "d891601579d6fe0551b7dd3a46b60e7a177b734ced35dbea38e7cf52bb78c771"), looks := true }, kinds := [], alts := [], laidByText := true, laidKinds := [.data, .data, .data, .sentinel, .sentinel], laidTests := true, laidLooks := .later }
def RatioSumsCardSaid : Prop := Claim7.holds Tryz.pinned (.plain (OpenSpec.ofChange ratioSumsSpec)) ratioSumsCard

/-- THE TIED CARD OF 'probitylaw01.RatioRaw'. -/
def ratioRawCard : Claim7 := { stood := { row := ratioRawRow, standIns := [], harness := (true, "d891601579d6fe0551b7dd3a46b60e7a177b734ced35dbea38e7cf52bb78c771"), looks := true }, kinds := [], alts := [], laidByText := true, laidKinds := [.data, .data, .data, .sentinel, .sentinel], laidTests := true, laidLooks := .later }
def RatioRawCardSaid : Prop := Claim7.holds Tryz.pinned (.plain (OpenSpec.ofChange ratioRawSpec)) ratioRawCard

/-- THE SECOND FORM's CARD OF 'probitylaw01.RatioTexts'. -/
def ratioTextsUptoCard : Claim7 := { stood := { row := ratioTextsUptoRow, standIns := [], harness := (true, "d891601579d6fe0551b7dd3a46b60e7a177b734ced35dbea38e7cf52bb78c771"), looks := true }, kinds := [], alts := [], laidByText := true, laidKinds := [.data, .data, .data, .sentinel, .sentinel], laidTests := true, laidLooks := .later }
def RatioTextsUptoCardSaid : Prop := Claim7.holds Tryz.pinned (.plain (OpenSpec.upto ratioTextsSpec)) ratioTextsUptoCard

/-- THE SECOND FORM's CARD OF 'probitylaw01.RatioSums'. -/
def ratioSumsUptoCard : Claim7 := { stood := { row := ratioSumsUptoRow, standIns := [], harness := (true, "d891601579d6fe0551b7dd3a46b60e7a177b734ced35dbea38e7cf52bb78c771"), looks := true }, kinds := [], alts := [], laidByText := true, laidKinds := [.data, .data, .data, .sentinel, .sentinel], laidTests := true, laidLooks := .later }
def RatioSumsUptoCardSaid : Prop := Claim7.holds Tryz.pinned (.plain (OpenSpec.upto ratioSumsSpec)) ratioSumsUptoCard

/-- THE SECOND FORM's CARD OF 'probitylaw01.RatioRaw'. -/
def ratioRawUptoCard : Claim7 := { stood := { row := ratioRawUptoRow, standIns := [], harness := (true, "d891601579d6fe0551b7dd3a46b60e7a177b734ced35dbea38e7cf52bb78c771"), looks := true }, kinds := [], alts := [], laidByText := true, laidKinds := [.data, .data, .data, .sentinel, .sentinel], laidTests := true, laidLooks := .later }
def RatioRawUptoCardSaid : Prop := Claim7.holds Tryz.pinned (.plain (OpenSpec.upto ratioRawSpec)) ratioRawUptoCard
end Rows
end Go.Proofs.YtfclokkfnkieoaaGreatDoor
