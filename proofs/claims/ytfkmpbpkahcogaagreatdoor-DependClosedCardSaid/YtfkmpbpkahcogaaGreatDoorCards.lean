/-
  DERIVED. GIVEN WITH THE SEED: THE CARDS: each row of YtfkmpbpkahcogaaGreatDoorRows.lean that lists a variable, with what it lists TIED to the program's text (the seventh form; the later family's looks); each row that meets fmt, with fmt's text TOLD by the authors' own Lean function (tested against real Go, not proved from fmt's source: count such statements apart). THE CARD IS WHAT COUNTS. Prove the row's statement (the work); the ties are given (YtfkmpbpkahcogaaGreatDoorTie.lean); close each card by the builder's one call (the guide's Derived/Test/ToyasCard.lean, 'card_holds'). Laid BY PROGRAM, IN A SANDBOX (cutbox-door.mjs). By AI agents, Wed Nov 11 2026. No macro, syntax, notation, axiom, sorry.
-/
import Derived.Test.YtfkmpbpkahcogaaGreatDoorRows
import GoSem.ClaimSeven
namespace Go.Proofs.YtfkmpbpkahcogaaGreatDoor
namespace Rows

/-- THE TIED CARD OF 'probitylaw07.DependClauses'. -/
def dependClausesCard : Claim7 := { stood := { row := dependClausesRow, standIns := [], harness := (true, "9a47183972ab7fd2ccd4a3a0041eb5cd1384705ab3da8d755de00055eefac8c3"), looks := true }, kinds := [], alts := [], laidByText := true, laidKinds := [.data, .data, .data, .data, .sentinel, .sentinel, .pinned], laidTests := true, laidLooks := .later }
def DependClausesCardSaid : Prop := Claim7.holds Tryz.pinned (.plain (OpenSpec.ofChange dependClausesSpec)) dependClausesCard

/-- THE TIED CARD OF 'probitylaw07.DependEdits'. -/
def dependEditsCard : Claim7 := { stood := { row := dependEditsRow, standIns := [], harness := (true, "9a47183972ab7fd2ccd4a3a0041eb5cd1384705ab3da8d755de00055eefac8c3"), looks := true }, kinds := [], alts := [], laidByText := true, laidKinds := [.data, .data, .data, .data, .sentinel, .sentinel, .pinned], laidTests := true, laidLooks := .later }
def DependEditsCardSaid : Prop := Claim7.holds Tryz.pinned (.plain (OpenSpec.ofChange dependEditsSpec)) dependEditsCard

/-- THE TIED CARD OF 'probitylaw07.DependTwo'. -/
def dependTwoCard : Claim7 := { stood := { row := dependTwoRow, standIns := [], harness := (true, "9a47183972ab7fd2ccd4a3a0041eb5cd1384705ab3da8d755de00055eefac8c3"), looks := true }, kinds := [], alts := [], laidByText := true, laidKinds := [.data, .data, .data, .data, .sentinel, .sentinel, .pinned], laidTests := true, laidLooks := .later }
def DependTwoCardSaid : Prop := Claim7.holds Tryz.pinned (.plain (OpenSpec.ofChange dependTwoSpec)) dependTwoCard

/-- THE TIED CARD OF 'probitylaw07.DependSame'. -/
def dependSameCard : Claim7 := { stood := { row := dependSameRow, standIns := [], harness := (true, "9a47183972ab7fd2ccd4a3a0041eb5cd1384705ab3da8d755de00055eefac8c3"), looks := true }, kinds := [], alts := [], laidByText := true, laidKinds := [.data, .data, .data, .data, .sentinel, .sentinel, .pinned], laidTests := true, laidLooks := .later }
def DependSameCardSaid : Prop := Claim7.holds Tryz.pinned (.plain (OpenSpec.ofChange dependSameSpec)) dependSameCard

/-- THE TIED CARD OF 'probitylaw07.DependClosed'. -/
def dependClosedCard : Claim7 := { stood := { row := dependClosedRow, standIns := [], harness := (true, "9a47183972ab7fd2ccd4a3a0041eb5cd1384705ab3da8d755de00055eefac8c3"), looks := true }, kinds := [], alts := [], laidByText := true, laidKinds := [.data, .data, .data, .data, .sentinel, .sentinel, .pinned], laidTests := true, laidLooks := .later }
def DependClosedCardSaid : Prop := Claim7.holds Tryz.pinned (.plain (OpenSpec.ofChange dependClosedSpec)) dependClosedCard

/-- THE TIED CARD OF 'probitylaw07.DependTouches'. -/
def dependTouchesCard : Claim7 := { stood := { row := dependTouchesRow, standIns := [], harness := (true, "9a47183972ab7fd2ccd4a3a0041eb5cd1384705ab3da8d755de00055eefac8c3"), looks := true }, kinds := [], alts := [], laidByText := true, laidKinds := [.data, .data, .data, .data, .sentinel, .sentinel, .pinned], laidTests := true, laidLooks := .later }
def DependTouchesCardSaid : Prop := Claim7.holds Tryz.pinned (.plain (OpenSpec.ofChange dependTouchesSpec)) dependTouchesCard

/-- THE TIED CARD OF 'probitylaw07.DependKeeps'. -/
def dependKeepsCard : Claim7 := { stood := { row := dependKeepsRow, standIns := [], harness := (true, "9a47183972ab7fd2ccd4a3a0041eb5cd1384705ab3da8d755de00055eefac8c3"), looks := true }, kinds := [], alts := [], laidByText := true, laidKinds := [.data, .data, .data, .data, .sentinel, .sentinel, .pinned], laidTests := true, laidLooks := .later }
def DependKeepsCardSaid : Prop := Claim7.holds Tryz.pinned (.plain (OpenSpec.ofChange dependKeepsSpec)) dependKeepsCard

/-- THE SECOND FORM's CARD OF 'probitylaw07.DependClauses'. -/
def dependClausesUptoCard : Claim7 := { stood := { row := dependClausesUptoRow, standIns := [], harness := (true, "9a47183972ab7fd2ccd4a3a0041eb5cd1384705ab3da8d755de00055eefac8c3"), looks := true }, kinds := [], alts := [], laidByText := true, laidKinds := [.data, .data, .data, .data, .sentinel, .sentinel, .pinned], laidTests := true, laidLooks := .later }
def DependClausesUptoCardSaid : Prop := Claim7.holds Tryz.pinned (.plain (OpenSpec.upto dependClausesSpec)) dependClausesUptoCard

/-- THE SECOND FORM's CARD OF 'probitylaw07.DependEdits'. -/
def dependEditsUptoCard : Claim7 := { stood := { row := dependEditsUptoRow, standIns := [], harness := (true, "9a47183972ab7fd2ccd4a3a0041eb5cd1384705ab3da8d755de00055eefac8c3"), looks := true }, kinds := [], alts := [], laidByText := true, laidKinds := [.data, .data, .data, .data, .sentinel, .sentinel, .pinned], laidTests := true, laidLooks := .later }
def DependEditsUptoCardSaid : Prop := Claim7.holds Tryz.pinned (.plain (OpenSpec.upto dependEditsSpec)) dependEditsUptoCard

/-- THE SECOND FORM's CARD OF 'probitylaw07.DependTwo'. -/
def dependTwoUptoCard : Claim7 := { stood := { row := dependTwoUptoRow, standIns := [], harness := (true, "9a47183972ab7fd2ccd4a3a0041eb5cd1384705ab3da8d755de00055eefac8c3"), looks := true }, kinds := [], alts := [], laidByText := true, laidKinds := [.data, .data, .data, .data, .sentinel, .sentinel, .pinned], laidTests := true, laidLooks := .later }
def DependTwoUptoCardSaid : Prop := Claim7.holds Tryz.pinned (.plain (OpenSpec.upto dependTwoSpec)) dependTwoUptoCard

/-- THE SECOND FORM's CARD OF 'probitylaw07.DependSame'. -/
def dependSameUptoCard : Claim7 := { stood := { row := dependSameUptoRow, standIns := [], harness := (true, "9a47183972ab7fd2ccd4a3a0041eb5cd1384705ab3da8d755de00055eefac8c3"), looks := true }, kinds := [], alts := [], laidByText := true, laidKinds := [.data, .data, .data, .data, .sentinel, .sentinel, .pinned], laidTests := true, laidLooks := .later }
def DependSameUptoCardSaid : Prop := Claim7.holds Tryz.pinned (.plain (OpenSpec.upto dependSameSpec)) dependSameUptoCard

/-- THE SECOND FORM's CARD OF 'probitylaw07.DependClosed'. -/
def dependClosedUptoCard : Claim7 := { stood := { row := dependClosedUptoRow, standIns := [], harness := (true, "9a47183972ab7fd2ccd4a3a0041eb5cd1384705ab3da8d755de00055eefac8c3"), looks := true }, kinds := [], alts := [], laidByText := true, laidKinds := [.data, .data, .data, .data, .sentinel, .sentinel, .pinned], laidTests := true, laidLooks := .later }
def DependClosedUptoCardSaid : Prop := Claim7.holds Tryz.pinned (.plain (OpenSpec.upto dependClosedSpec)) dependClosedUptoCard

/-- THE SECOND FORM's CARD OF 'probitylaw07.DependTouches'. -/
def dependTouchesUptoCard : Claim7 := { stood := { row := dependTouchesUptoRow, standIns := [], harness := (true, "9a47183972ab7fd2ccd4a3a0041eb5cd1384705ab3da8d755de00055eefac8c3"), looks := true }, kinds := [], alts := [], laidByText := true, laidKinds := [.data, .data, .data, .data, .sentinel, .sentinel, .pinned], laidTests := true, laidLooks := .later }
def DependTouchesUptoCardSaid : Prop := Claim7.holds Tryz.pinned (.plain (OpenSpec.upto dependTouchesSpec)) dependTouchesUptoCard

/-- THE SECOND FORM's CARD OF 'probitylaw07.DependKeeps'. -/
def dependKeepsUptoCard : Claim7 := { stood := { row := dependKeepsUptoRow, standIns := [], harness := (true, "9a47183972ab7fd2ccd4a3a0041eb5cd1384705ab3da8d755de00055eefac8c3"), looks := true }, kinds := [], alts := [], laidByText := true, laidKinds := [.data, .data, .data, .data, .sentinel, .sentinel, .pinned], laidTests := true, laidLooks := .later }
def DependKeepsUptoCardSaid : Prop := Claim7.holds Tryz.pinned (.plain (OpenSpec.upto dependKeepsSpec)) dependKeepsUptoCard
end Rows
end Go.Proofs.YtfkmpbpkahcogaaGreatDoor
