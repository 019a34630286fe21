/-
  DERIVED. GIVEN WITH THE SEED: THE CARDS: each row of YtmfkimnmklnppaaGreatDoorRows.lean that lists a variable, with what it lists TIED to the program's text (the seventh form; the later family's looks); each row that meets fmt, with fmt's text TOLD by the authors' own Lean function (tested against real Go, not proved from fmt's source: count such statements apart). THE CARD IS WHAT COUNTS. Prove the row's statement (the work); the ties are given (YtmfkimnmklnppaaGreatDoorTie.lean); close each card by the builder's one call (the guide's Derived/Test/ToyasCard.lean, 'card_holds'). Laid BY PROGRAM, IN A SANDBOX (cutbox-door.mjs). By AI agents, Wed Nov 11 2026. No macro, syntax, notation, axiom, sorry.
-/
import Derived.Test.YtmfkimnmklnppaaGreatDoorRows
import GoSem.ClaimSeven
namespace Go.Proofs.YtmfkimnmklnppaaGreatDoor
namespace Rows

/-- THE TIED CARD OF 'probitytop.TopRules'. -/
def topRulesCard : Claim7 := { stood := { row := topRulesRow, standIns := [], harness := (true, "626647075d6c43602eefbd33178e83ac0aa5704c584e6fd34904a93f3e0ec135"), looks := true }, kinds := [], alts := [], laidByText := true, laidKinds := [.data, .data, .data, .data, .sentinel, .sentinel, .pinned], laidTests := true, laidLooks := .later }
def TopRulesCardSaid : Prop := Claim7.holds Tryz.pinned (.plain (OpenSpec.ofChange topRulesSpec)) topRulesCard

/-- THE SECOND FORM's CARD OF 'probitytop.TopRules'. -/
def topRulesUptoCard : Claim7 := { stood := { row := topRulesUptoRow, standIns := [], harness := (true, "626647075d6c43602eefbd33178e83ac0aa5704c584e6fd34904a93f3e0ec135"), looks := true }, kinds := [], alts := [], laidByText := true, laidKinds := [.data, .data, .data, .data, .sentinel, .sentinel, .pinned], laidTests := true, laidLooks := .later }
def TopRulesUptoCardSaid : Prop := Claim7.holds Tryz.pinned (.plain (OpenSpec.upto topRulesSpec)) topRulesUptoCard
end Rows
end Go.Proofs.YtmfkimnmklnppaaGreatDoor
