/-
  DERIVED. GIVEN WITH THE SEED: THE CARDS: each row of YtfclokkfnkieoaaDoorRows.lean that lists a variable, with what it lists TIED to the program's text (the seventh form; the later family's looks); each row that meets fmt, with fmt's text TOLD by the authors' own Lean function (tested against real Go, not proved from fmt's source: count such statements apart). THE CARD IS WHAT COUNTS. Prove the row's statement (the work); the ties are given (YtfclokkfnkieoaaDoorTie.lean); close each card by the builder's one call (the guide's Derived/Test/ToyasCard.lean, 'card_holds'). Laid BY PROGRAM, IN A SANDBOX (cutbox-door.mjs). By AI agents, Wed Nov 11 2026. No macro, syntax, notation, axiom, sorry.
-/
import Derived.Test.YtfclokkfnkieoaaDoorRows
import GoSem.ClaimSeven
namespace Go.Proofs.YtfclokkfnkieoaaDoor
namespace Rows

/-- THE TIED CARD OF 'probitylaw01.RatioMakes'. -/
def ratioMakesCard : Claim7 := { stood := { row := ratioMakesRow, standIns := [], harness := (true, "6dee45e37af83372adcdc2d9d1ac8b730cd39b4a9e8d7ed327b2f1f9ceb02d30"), looks := true }, kinds := [], alts := [], laidByText := true, laidKinds := [.data, .data, .data, .sentinel, .sentinel], laidTests := true, laidLooks := .later }
def RatioMakesCardSaid : Prop := Claim7.holds Tryd.pinned (.plain (OpenSpec.ofChange ratioMakesSpec)) ratioMakesCard

/-- THE TIED CARD OF 'probitylaw01.RatioField'. -/
def ratioFieldCard : Claim7 := { stood := { row := ratioFieldRow, standIns := [], harness := (true, "6dee45e37af83372adcdc2d9d1ac8b730cd39b4a9e8d7ed327b2f1f9ceb02d30"), looks := true }, kinds := [], alts := [], laidByText := true, laidKinds := [.data, .data, .data, .sentinel, .sentinel], laidTests := true, laidLooks := .later }
def RatioFieldCardSaid : Prop := Claim7.holds Tryd.pinned (.plain (OpenSpec.ofChange ratioFieldSpec)) ratioFieldCard

/-- THE TIED CARD OF 'probitylaw01.RatioOrder'. -/
def ratioOrderCard : Claim7 := { stood := { row := ratioOrderRow, standIns := [], harness := (true, "6dee45e37af83372adcdc2d9d1ac8b730cd39b4a9e8d7ed327b2f1f9ceb02d30"), looks := true }, kinds := [], alts := [], laidByText := true, laidKinds := [.data, .data, .data, .sentinel, .sentinel], laidTests := true, laidLooks := .later }
def RatioOrderCardSaid : Prop := Claim7.holds Tryd.pinned (.plain (OpenSpec.ofChange ratioOrderSpec)) ratioOrderCard

/-- THE TIED CARD OF 'probitylaw01.RatioFloor'. -/
def ratioFloorCard : Claim7 := { stood := { row := ratioFloorRow, standIns := [], harness := (true, "6dee45e37af83372adcdc2d9d1ac8b730cd39b4a9e8d7ed327b2f1f9ceb02d30"), looks := true }, kinds := [], alts := [], laidByText := true, laidKinds := [.data, .data, .data, .sentinel, .sentinel], laidTests := true, laidLooks := .later }
def RatioFloorCardSaid : Prop := Claim7.holds Tryd.pinned (.plain (OpenSpec.ofChange ratioFloorSpec)) ratioFloorCard

/-- THE TIED CARD OF 'probitylaw01.RatioLimits'. -/
def ratioLimitsCard : Claim7 := { stood := { row := ratioLimitsRow, standIns := [], harness := (true, "6dee45e37af83372adcdc2d9d1ac8b730cd39b4a9e8d7ed327b2f1f9ceb02d30"), looks := true }, kinds := [], alts := [], laidByText := true, laidKinds := [.data, .data, .data, .sentinel, .sentinel], laidTests := true, laidLooks := .later }
def RatioLimitsCardSaid : Prop := Claim7.holds Tryd.pinned (.plain (OpenSpec.ofChange ratioLimitsSpec)) ratioLimitsCard

/-- THE SECOND FORM's CARD OF 'probitylaw01.RatioMakes'. -/
def ratioMakesUptoCard : Claim7 := { stood := { row := ratioMakesUptoRow, standIns := [], harness := (true, "6dee45e37af83372adcdc2d9d1ac8b730cd39b4a9e8d7ed327b2f1f9ceb02d30"), looks := true }, kinds := [], alts := [], laidByText := true, laidKinds := [.data, .data, .data, .sentinel, .sentinel], laidTests := true, laidLooks := .later }
def RatioMakesUptoCardSaid : Prop := Claim7.holds Tryd.pinned (.plain (OpenSpec.upto ratioMakesSpec)) ratioMakesUptoCard

/-- THE SECOND FORM's CARD OF 'probitylaw01.RatioField'. -/
def ratioFieldUptoCard : Claim7 := { stood := { row := ratioFieldUptoRow, standIns := [], harness := (true, "6dee45e37af83372adcdc2d9d1ac8b730cd39b4a9e8d7ed327b2f1f9ceb02d30"), looks := true }, kinds := [], alts := [], laidByText := true, laidKinds := [.data, .data, .data, .sentinel, .sentinel], laidTests := true, laidLooks := .later }
def RatioFieldUptoCardSaid : Prop := Claim7.holds Tryd.pinned (.plain (OpenSpec.upto ratioFieldSpec)) ratioFieldUptoCard

/-- THE SECOND FORM's CARD OF 'probitylaw01.RatioOrder'. -/
def ratioOrderUptoCard : Claim7 := { stood := { row := ratioOrderUptoRow, standIns := [], harness := (true, "6dee45e37af83372adcdc2d9d1ac8b730cd39b4a9e8d7ed327b2f1f9ceb02d30"), looks := true }, kinds := [], alts := [], laidByText := true, laidKinds := [.data, .data, .data, .sentinel, .sentinel], laidTests := true, laidLooks := .later }
def RatioOrderUptoCardSaid : Prop := Claim7.holds Tryd.pinned (.plain (OpenSpec.upto ratioOrderSpec)) ratioOrderUptoCard

/-- THE SECOND FORM's CARD OF 'probitylaw01.RatioFloor'. -/
def ratioFloorUptoCard : Claim7 := { stood := { row := ratioFloorUptoRow, standIns := [], harness := (true, "6dee45e37af83372adcdc2d9d1ac8b730cd39b4a9e8d7ed327b2f1f9ceb02d30"), looks := true }, kinds := [], alts := [], laidByText := true, laidKinds := [.data, .data, .data, .sentinel, .sentinel], laidTests := true, laidLooks := .later }
def RatioFloorUptoCardSaid : Prop := Claim7.holds Tryd.pinned (.plain (OpenSpec.upto ratioFloorSpec)) ratioFloorUptoCard

/-- THE SECOND FORM's CARD OF 'probitylaw01.RatioLimits'. -/
def ratioLimitsUptoCard : Claim7 := { stood := { row := ratioLimitsUptoRow, standIns := [], harness := (true, "6dee45e37af83372adcdc2d9d1ac8b730cd39b4a9e8d7ed327b2f1f9ceb02d30"), looks := true }, kinds := [], alts := [], laidByText := true, laidKinds := [.data, .data, .data, .sentinel, .sentinel], laidTests := true, laidLooks := .later }
def RatioLimitsUptoCardSaid : Prop := Claim7.holds Tryd.pinned (.plain (OpenSpec.upto ratioLimitsSpec)) ratioLimitsUptoCard
end Rows
end Go.Proofs.YtfclokkfnkieoaaDoor
