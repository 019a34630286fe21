/-
  DERIVED. GIVEN WITH THE SEED: THE CARDS: each row of YtipjnbbfnlfmjaaGreatDoorRows.lean that lists a variable, with what it lists TIED to the program's text (the seventh form; the later family's looks); each row that meets fmt, with fmt's text TOLD by the authors' own Lean function (tested against real Go, not proved from fmt's source: count such statements apart). THE CARD IS WHAT COUNTS. Prove the row's statement (the work); the ties are given (YtipjnbbfnlfmjaaGreatDoorTie.lean); close each card by the builder's one call (the guide's Derived/Test/ToyasCard.lean, 'card_holds'). Laid BY PROGRAM, IN A SANDBOX (cutbox-door.mjs). By AI agents, Wed Nov 11 2026. No macro, syntax, notation, axiom, sorry.
-/
import Derived.Test.YtipjnbbfnlfmjaaGreatDoorRows
import GoSem.ClaimSeven
namespace Go.Proofs.YtipjnbbfnlfmjaaGreatDoor
namespace Rows

/-- THE TIED CARD OF 'probitytop.TopTouches'. -/
def topTouchesCard : Claim7 := { stood := { row := topTouchesRow, standIns := [], harness := (true, "4c0d7ad794f13ffaaf94e297f66532116911b15f148cae3b87e7c361000d0402"), looks := true }, kinds := [], alts := [], laidByText := true, laidKinds := [.data, .data, .data, .data, .sentinel, .sentinel, .pinned], laidTests := true, laidLooks := .later }
def TopTouchesCardSaid : Prop := Claim7.holds Tryz.pinned (.plain (OpenSpec.ofChange topTouchesSpec)) topTouchesCard

/-- THE SECOND FORM's CARD OF 'probitytop.TopTouches'. -/
def topTouchesUptoCard : Claim7 := { stood := { row := topTouchesUptoRow, standIns := [], harness := (true, "4c0d7ad794f13ffaaf94e297f66532116911b15f148cae3b87e7c361000d0402"), looks := true }, kinds := [], alts := [], laidByText := true, laidKinds := [.data, .data, .data, .data, .sentinel, .sentinel, .pinned], laidTests := true, laidLooks := .later }
def TopTouchesUptoCardSaid : Prop := Claim7.holds Tryz.pinned (.plain (OpenSpec.upto topTouchesSpec)) topTouchesUptoCard
end Rows
end Go.Proofs.YtipjnbbfnlfmjaaGreatDoor
