/-
  No cell of these rows narrows 'for every input' (looked for: loops, veiled, ifaces, maps, wideKeys, modest, calm, conditions, laid).
  DERIVED. THE GIVEN ROWS OF THIS SEAT. 6 by the template 'for every input the law returns true; each argument reads behind the call as it read before'; 0 by the template 'total and deterministic' (their statements: YtmkjcheafdionaaGreatTotals.lean).
  GIVEN WITH THE SEED: the statements are not yours to turn. If you find one false, say at which input.
  Laid BY PROGRAM, IN A SANDBOX (cutbox-rows.mjs): the forced cells as the released guide's own fill.sh prints them over the translation 1a84e4b636d7441b… (all of the seat's roots in one cut). By AI agents, Wed Nov 11 2026. No macro, syntax, notation, axiom, sorry.
-/
import Derived.Test.YtmkjcheafdionaaGreatChecked
import GoSem.Claim
import GoSem.ClaimJoined
import GoSem.ClaimMapViews
import Derived.JoinedTies
import Derived.KernelRfl
namespace Go.Proofs.YtmkjcheafdionaaGreat
/- THE CELL 'sum', in the pinned program and in every row, IS THE sha256 OF THE DUMP (.gsa) THAT YtmkjcheafdionaaGreatProg.lean LOADS. Nothing in Lean hashes anything: it is a label: what it is worth is what the hold of that sum in a sandbox is worth. -/
noncomputable def Tryz.pinned : Pinned := { name := "ytmkjcheafdionaagreat", sum := "1a84e4b636d7441b6e4818a6e2cdf6525426b05ab3d43f2970dd8b5102e2fec4", checked := Tryz.checked }
namespace Rows
def none {H : Type} : Left H := { results := [], args := [] }

/-- 'probitylaw21.CombineSolves': WHATEVER THE INPUT: true; the input reads as it did. -/
def combineSolvesSpec : ChangeSpec := { name := "combineSolves", fn := fun _ => fun
  | [d] => { results := [.lit (.bool true)], args := [d] }
  | _ => none }
def combineSolvesRow : OpenClaim := { program := "ytmkjcheafdionaagreat", sum := "1a84e4b636d7441b6e4818a6e2cdf6525426b05ab3d43f2970dd8b5102e2fec4", func := "probity/probitylaw21.CombineSolves", spec := "combineSolves", inPlace := ["math/bits.Add64", "math/bits.Sub64"], unfollowed := true, recurses := true, named := ["math/bits.divideError", "math/bits.overflowError"], apart := false }
def CombineSolvesSaid : Prop := combineSolvesRow.holds Tryz.pinned (OpenSpec.ofChange combineSolvesSpec)

/-- ITS FALSE NEIGHBOUR: 'it returns false'. Refute it at one input. -/
def combineSolvesWrong : ChangeSpec := { name := "combineSolves", fn := fun _ => fun
  | [d] => { results := [.lit (.bool false)], args := [d] }
  | _ => none }
def CombineSolvesWrongFalsely : Prop := combineSolvesRow.holds Tryz.pinned (OpenSpec.ofChange combineSolvesWrong)

/-- 'probitylaw21.CombineProofs': WHATEVER THE INPUT: true; the input reads as it did. -/
def combineProofsSpec : ChangeSpec := { name := "combineProofs", fn := fun _ => fun
  | [d] => { results := [.lit (.bool true)], args := [d] }
  | _ => none }
def combineProofsRow : OpenClaim := { program := "ytmkjcheafdionaagreat", sum := "1a84e4b636d7441b6e4818a6e2cdf6525426b05ab3d43f2970dd8b5102e2fec4", func := "probity/probitylaw21.CombineProofs", spec := "combineProofs", inPlace := ["math/bits.Add64", "math/bits.Sub64"], unfollowed := true, recurses := true, named := ["math/bits.divideError", "math/bits.overflowError"], apart := false }
def CombineProofsSaid : Prop := combineProofsRow.holds Tryz.pinned (OpenSpec.ofChange combineProofsSpec)

/-- ITS FALSE NEIGHBOUR: 'it returns false'. Refute it at one input. -/
def combineProofsWrong : ChangeSpec := { name := "combineProofs", fn := fun _ => fun
  | [d] => { results := [.lit (.bool false)], args := [d] }
  | _ => none }
def CombineProofsWrongFalsely : Prop := combineProofsRow.holds Tryz.pinned (OpenSpec.ofChange combineProofsWrong)

/-- 'probitylaw21.CombineGaps': WHATEVER THE INPUT: true; the input reads as it did. -/
def combineGapsSpec : ChangeSpec := { name := "combineGaps", fn := fun _ => fun
  | [d1, d2] => { results := [.lit (.bool true)], args := [d1, d2] }
  | _ => none }
def combineGapsRow : OpenClaim := { program := "ytmkjcheafdionaagreat", sum := "1a84e4b636d7441b6e4818a6e2cdf6525426b05ab3d43f2970dd8b5102e2fec4", func := "probity/probitylaw21.CombineGaps", spec := "combineGaps", inPlace := ["math/bits.Add64", "math/bits.Sub64"], unfollowed := true, recurses := true, named := ["math/bits.divideError", "math/bits.overflowError"], apart := false }
def CombineGapsSaid : Prop := combineGapsRow.holds Tryz.pinned (OpenSpec.ofChange combineGapsSpec)

/-- ITS FALSE NEIGHBOUR: 'it returns false'. Refute it at one input. -/
def combineGapsWrong : ChangeSpec := { name := "combineGaps", fn := fun _ => fun
  | [d1, d2] => { results := [.lit (.bool false)], args := [d1, d2] }
  | _ => none }
def CombineGapsWrongFalsely : Prop := combineGapsRow.holds Tryz.pinned (OpenSpec.ofChange combineGapsWrong)

/-- 'probitylaw21.CombineOwn': WHATEVER THE INPUT: true; the input reads as it did. -/
def combineOwnSpec : ChangeSpec := { name := "combineOwn", fn := fun _ => fun
  | [d] => { results := [.lit (.bool true)], args := [d] }
  | _ => none }
def combineOwnRow : OpenClaim := { program := "ytmkjcheafdionaagreat", sum := "1a84e4b636d7441b6e4818a6e2cdf6525426b05ab3d43f2970dd8b5102e2fec4", func := "probity/probitylaw21.CombineOwn", spec := "combineOwn", inPlace := ["math/bits.Add64", "math/bits.Sub64"], unfollowed := true, recurses := true, named := ["math/bits.divideError", "math/bits.overflowError"], apart := false }
def CombineOwnSaid : Prop := combineOwnRow.holds Tryz.pinned (OpenSpec.ofChange combineOwnSpec)

/-- ITS FALSE NEIGHBOUR: 'it returns false'. Refute it at one input. -/
def combineOwnWrong : ChangeSpec := { name := "combineOwn", fn := fun _ => fun
  | [d] => { results := [.lit (.bool false)], args := [d] }
  | _ => none }
def CombineOwnWrongFalsely : Prop := combineOwnRow.holds Tryz.pinned (OpenSpec.ofChange combineOwnWrong)

/-- 'probitylaw21.CombineBetter': WHATEVER THE INPUT: true; the input reads as it did. -/
def combineBetterSpec : ChangeSpec := { name := "combineBetter", fn := fun _ => fun
  | [d1, d2, d3] => { results := [.lit (.bool true)], args := [d1, d2, d3] }
  | _ => none }
def combineBetterRow : OpenClaim := { program := "ytmkjcheafdionaagreat", sum := "1a84e4b636d7441b6e4818a6e2cdf6525426b05ab3d43f2970dd8b5102e2fec4", func := "probity/probitylaw21.CombineBetter", spec := "combineBetter", inPlace := ["math/bits.Add64", "math/bits.Sub64"], unfollowed := true, recurses := true, named := ["math/bits.divideError", "math/bits.overflowError"], apart := false }
def CombineBetterSaid : Prop := combineBetterRow.holds Tryz.pinned (OpenSpec.ofChange combineBetterSpec)

/-- ITS FALSE NEIGHBOUR: 'it returns false'. Refute it at one input. -/
def combineBetterWrong : ChangeSpec := { name := "combineBetter", fn := fun _ => fun
  | [d1, d2, d3] => { results := [.lit (.bool false)], args := [d1, d2, d3] }
  | _ => none }
def CombineBetterWrongFalsely : Prop := combineBetterRow.holds Tryz.pinned (OpenSpec.ofChange combineBetterWrong)

/-- 'probitylaw21.CombinePaid': WHATEVER THE INPUT: true; the input reads as it did. -/
def combinePaidSpec : ChangeSpec := { name := "combinePaid", fn := fun _ => fun
  | [d1, d2, d3] => { results := [.lit (.bool true)], args := [d1, d2, d3] }
  | _ => none }
def combinePaidRow : OpenClaim := { program := "ytmkjcheafdionaagreat", sum := "1a84e4b636d7441b6e4818a6e2cdf6525426b05ab3d43f2970dd8b5102e2fec4", func := "probity/probitylaw21.CombinePaid", spec := "combinePaid", inPlace := ["math/bits.Add64", "math/bits.Sub64"], unfollowed := true, recurses := true, named := ["math/bits.divideError", "math/bits.overflowError"], apart := false }
def CombinePaidSaid : Prop := combinePaidRow.holds Tryz.pinned (OpenSpec.ofChange combinePaidSpec)

/-- ITS FALSE NEIGHBOUR: 'it returns false'. Refute it at one input. -/
def combinePaidWrong : ChangeSpec := { name := "combinePaid", fn := fun _ => fun
  | [d1, d2, d3] => { results := [.lit (.bool false)], args := [d1, d2, d3] }
  | _ => none }
def CombinePaidWrongFalsely : Prop := combinePaidRow.holds Tryz.pinned (OpenSpec.ofChange combinePaidWrong)

/- THE SECOND FORM. 'bulk': how many values and letters a reading holds, each counted each time it is reached (what is shared counts as often as it is met; a slice's spare places count too). A statement '..UptoSaid' is the law's where the arguments, and the package variables that the reading takes, are together of bulk at most 1048576: NARROWER than '..Said'. Prove '..Said' where nothing that the law and all that it calls make is longer than what came in: it says more and counts as full. Else prove '..UptoSaid'. A law counts once. -/
mutual
def uptoBulk {H : Type} : DataW H → Nat
  | .lit (.string bytes) => bytes.length + 1
  | .lit _ => 1
  | .nil => 1
  | .ptr d => uptoBulk d + 1
  | .slice elems spare => uptoBulkAll elems + uptoBulkAll spare + 1
  | .agg parts => uptoBulkAll parts + 1
  | .iface _ d => uptoBulk d + 1
  | .map entries => uptoBulkEntries entries + 1
  | .held _ => 1
def uptoBulkAll {H : Type} : List (DataW H) → Nat
  | [] => 0
  | d :: r => uptoBulk d + uptoBulkAll r
def uptoBulkEntries {H : Type} : List (Lit × DataW H) → Nat
  | [] => 0
  | x :: r => uptoBulkEntry x + uptoBulkEntries r
def uptoBulkEntry {H : Type} : Lit × DataW H → Nat
  | (.string bytes, d) => bytes.length + uptoBulk d + 1
  | (_, d) => uptoBulk d + 1
 end
def uptoSmall : (H : Type) → List (DataW H) → Bool := fun _ ds => decide (uptoBulkAll ds ≤ 1048576)
def OpenSpec.upto (s : _root_.Go.ChangeSpec) : _root_.Go.OpenSpec := { _root_.Go.OpenSpec.ofChange s with cond := some uptoSmall }

/-- 'probitylaw21.CombineSolves', WHERE WHAT IT READS IS OF BULK AT MOST 1048576: true; the input reads as it did. -/
def combineSolvesUptoRow : OpenClaim := { program := "ytmkjcheafdionaagreat", sum := "1a84e4b636d7441b6e4818a6e2cdf6525426b05ab3d43f2970dd8b5102e2fec4", func := "probity/probitylaw21.CombineSolves", spec := "combineSolves", inPlace := ["math/bits.Add64", "math/bits.Sub64"], unfollowed := true, recurses := true, named := ["math/bits.divideError", "math/bits.overflowError"], apart := false, narrowed := true }
def CombineSolvesUptoSaid : Prop := combineSolvesUptoRow.holds Tryz.pinned (OpenSpec.upto combineSolvesSpec)

/-- 'probitylaw21.CombineProofs', WHERE WHAT IT READS IS OF BULK AT MOST 1048576: true; the input reads as it did. -/
def combineProofsUptoRow : OpenClaim := { program := "ytmkjcheafdionaagreat", sum := "1a84e4b636d7441b6e4818a6e2cdf6525426b05ab3d43f2970dd8b5102e2fec4", func := "probity/probitylaw21.CombineProofs", spec := "combineProofs", inPlace := ["math/bits.Add64", "math/bits.Sub64"], unfollowed := true, recurses := true, named := ["math/bits.divideError", "math/bits.overflowError"], apart := false, narrowed := true }
def CombineProofsUptoSaid : Prop := combineProofsUptoRow.holds Tryz.pinned (OpenSpec.upto combineProofsSpec)

/-- 'probitylaw21.CombineGaps', WHERE WHAT IT READS IS OF BULK AT MOST 1048576: true; the input reads as it did. -/
def combineGapsUptoRow : OpenClaim := { program := "ytmkjcheafdionaagreat", sum := "1a84e4b636d7441b6e4818a6e2cdf6525426b05ab3d43f2970dd8b5102e2fec4", func := "probity/probitylaw21.CombineGaps", spec := "combineGaps", inPlace := ["math/bits.Add64", "math/bits.Sub64"], unfollowed := true, recurses := true, named := ["math/bits.divideError", "math/bits.overflowError"], apart := false, narrowed := true }
def CombineGapsUptoSaid : Prop := combineGapsUptoRow.holds Tryz.pinned (OpenSpec.upto combineGapsSpec)

/-- 'probitylaw21.CombineOwn', WHERE WHAT IT READS IS OF BULK AT MOST 1048576: true; the input reads as it did. -/
def combineOwnUptoRow : OpenClaim := { program := "ytmkjcheafdionaagreat", sum := "1a84e4b636d7441b6e4818a6e2cdf6525426b05ab3d43f2970dd8b5102e2fec4", func := "probity/probitylaw21.CombineOwn", spec := "combineOwn", inPlace := ["math/bits.Add64", "math/bits.Sub64"], unfollowed := true, recurses := true, named := ["math/bits.divideError", "math/bits.overflowError"], apart := false, narrowed := true }
def CombineOwnUptoSaid : Prop := combineOwnUptoRow.holds Tryz.pinned (OpenSpec.upto combineOwnSpec)

/-- 'probitylaw21.CombineBetter', WHERE WHAT IT READS IS OF BULK AT MOST 1048576: true; the input reads as it did. -/
def combineBetterUptoRow : OpenClaim := { program := "ytmkjcheafdionaagreat", sum := "1a84e4b636d7441b6e4818a6e2cdf6525426b05ab3d43f2970dd8b5102e2fec4", func := "probity/probitylaw21.CombineBetter", spec := "combineBetter", inPlace := ["math/bits.Add64", "math/bits.Sub64"], unfollowed := true, recurses := true, named := ["math/bits.divideError", "math/bits.overflowError"], apart := false, narrowed := true }
def CombineBetterUptoSaid : Prop := combineBetterUptoRow.holds Tryz.pinned (OpenSpec.upto combineBetterSpec)

/-- 'probitylaw21.CombinePaid', WHERE WHAT IT READS IS OF BULK AT MOST 1048576: true; the input reads as it did. -/
def combinePaidUptoRow : OpenClaim := { program := "ytmkjcheafdionaagreat", sum := "1a84e4b636d7441b6e4818a6e2cdf6525426b05ab3d43f2970dd8b5102e2fec4", func := "probity/probitylaw21.CombinePaid", spec := "combinePaid", inPlace := ["math/bits.Add64", "math/bits.Sub64"], unfollowed := true, recurses := true, named := ["math/bits.divideError", "math/bits.overflowError"], apart := false, narrowed := true }
def CombinePaidUptoSaid : Prop := combinePaidUptoRow.holds Tryz.pinned (OpenSpec.upto combinePaidSpec)

end Rows
end Go.Proofs.YtmkjcheafdionaaGreat
