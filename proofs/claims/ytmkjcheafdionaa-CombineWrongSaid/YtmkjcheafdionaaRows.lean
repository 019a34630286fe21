/-
  No cell of these rows narrows 'for every input' (looked for: loops, veiled, ifaces, maps, wideKeys, modest, calm, conditions, laid).
  DERIVED. THE GIVEN ROWS OF THIS SEAT. 4 by the template 'for every input the law returns true; each argument reads behind the call as it read before'; 0 by the template 'total and deterministic' (their statements: YtmkjcheafdionaaTotals.lean).
  GIVEN WITH THE SEED: the statements are not yours to turn. If you find one false, say at which input.
  Laid BY PROGRAM, IN A SANDBOX (cutbox-rows.mjs): the forced cells as the released guide's own fill.sh prints them over the translation 2e9230304928d682… (all of the seat's roots in one cut). By AI agents, Wed Nov 11 2026. No macro, syntax, notation, axiom, sorry.
-/
import Derived.Test.YtmkjcheafdionaaChecked
import GoSem.Claim
import GoSem.ClaimJoined
import GoSem.ClaimMapViews
import Derived.JoinedTies
import Derived.KernelRfl
namespace Go.Proofs.Ytmkjcheafdionaa
/- THE CELL 'sum', in the pinned program and in every row, IS THE sha256 OF THE DUMP (.gsa) THAT YtmkjcheafdionaaProg.lean LOADS. Nothing in Lean hashes anything: it is a label: what it is worth is what the hold of that sum in a sandbox is worth. -/
noncomputable def Try.pinned : Pinned := { name := "ytmkjcheafdionaa", sum := "2e9230304928d682df1729f06527e204d8e9e05c8f5b912969f0e3072a2610ca", checked := Try.checked }
namespace Rows
def none {H : Type} : Left H := { results := [], args := [] }

/-- 'probitylaw21.CombineMore': WHATEVER THE INPUT: true; the input reads as it did. -/
def combineMoreSpec : ChangeSpec := { name := "combineMore", fn := fun _ => fun
  | [d1, d2] => { results := [.lit (.bool true)], args := [d1, d2] }
  | _ => none }
def combineMoreRow : OpenClaim := { program := "ytmkjcheafdionaa", sum := "2e9230304928d682df1729f06527e204d8e9e05c8f5b912969f0e3072a2610ca", func := "probity/probitylaw21.CombineMore", spec := "combineMore", inPlace := ["math/bits.Add64", "math/bits.Sub64"], unfollowed := true, recurses := true, named := ["math/bits.divideError", "math/bits.overflowError"], apart := false }
def CombineMoreSaid : Prop := combineMoreRow.holds Try.pinned (OpenSpec.ofChange combineMoreSpec)

/-- ITS FALSE NEIGHBOUR: 'it returns false'. Refute it at one input. -/
def combineMoreWrong : ChangeSpec := { name := "combineMore", fn := fun _ => fun
  | [d1, d2] => { results := [.lit (.bool false)], args := [d1, d2] }
  | _ => none }
def CombineMoreWrongFalsely : Prop := combineMoreRow.holds Try.pinned (OpenSpec.ofChange combineMoreWrong)

/-- 'probitylaw21.CombineLosers': WHATEVER THE INPUT: true; the input reads as it did. -/
def combineLosersSpec : ChangeSpec := { name := "combineLosers", fn := fun _ => fun
  | [d1, d2] => { results := [.lit (.bool true)], args := [d1, d2] }
  | _ => none }
def combineLosersRow : OpenClaim := { program := "ytmkjcheafdionaa", sum := "2e9230304928d682df1729f06527e204d8e9e05c8f5b912969f0e3072a2610ca", func := "probity/probitylaw21.CombineLosers", spec := "combineLosers", inPlace := ["math/bits.Add64", "math/bits.Sub64"], unfollowed := true, recurses := true, named := ["math/bits.divideError", "math/bits.overflowError"], apart := false }
def CombineLosersSaid : Prop := combineLosersRow.holds Try.pinned (OpenSpec.ofChange combineLosersSpec)

/-- ITS FALSE NEIGHBOUR: 'it returns false'. Refute it at one input. -/
def combineLosersWrong : ChangeSpec := { name := "combineLosers", fn := fun _ => fun
  | [d1, d2] => { results := [.lit (.bool false)], args := [d1, d2] }
  | _ => none }
def CombineLosersWrongFalsely : Prop := combineLosersRow.holds Try.pinned (OpenSpec.ofChange combineLosersWrong)

/-- 'probitylaw21.CombineWrong': WHATEVER THE INPUT: true; the input reads as it did. -/
def combineWrongSpec : ChangeSpec := { name := "combineWrong", fn := fun _ => fun
  | [d1, d2, d3] => { results := [.lit (.bool true)], args := [d1, d2, d3] }
  | _ => none }
def combineWrongRow : OpenClaim := { program := "ytmkjcheafdionaa", sum := "2e9230304928d682df1729f06527e204d8e9e05c8f5b912969f0e3072a2610ca", func := "probity/probitylaw21.CombineWrong", spec := "combineWrong", inPlace := ["math/bits.Add64", "math/bits.Sub64"], unfollowed := true, recurses := true, named := ["math/bits.divideError", "math/bits.overflowError"], apart := false }
def CombineWrongSaid : Prop := combineWrongRow.holds Try.pinned (OpenSpec.ofChange combineWrongSpec)

/-- ITS FALSE NEIGHBOUR: 'it returns false'. Refute it at one input. -/
def combineWrongWrong : ChangeSpec := { name := "combineWrong", fn := fun _ => fun
  | [d1, d2, d3] => { results := [.lit (.bool false)], args := [d1, d2, d3] }
  | _ => none }
def CombineWrongWrongFalsely : Prop := combineWrongRow.holds Try.pinned (OpenSpec.ofChange combineWrongWrong)

/-- 'probitylaw21.CombineLocal': WHATEVER THE INPUT: true; the input reads as it did. -/
def combineLocalSpec : ChangeSpec := { name := "combineLocal", fn := fun _ => fun
  | [d] => { results := [.lit (.bool true)], args := [d] }
  | _ => none }
def combineLocalRow : OpenClaim := { program := "ytmkjcheafdionaa", sum := "2e9230304928d682df1729f06527e204d8e9e05c8f5b912969f0e3072a2610ca", func := "probity/probitylaw21.CombineLocal", spec := "combineLocal", inPlace := ["math/bits.Add64", "math/bits.Sub64"], unfollowed := true, recurses := true, named := ["math/bits.divideError", "math/bits.overflowError"], apart := false }
def CombineLocalSaid : Prop := combineLocalRow.holds Try.pinned (OpenSpec.ofChange combineLocalSpec)

/-- ITS FALSE NEIGHBOUR: 'it returns false'. Refute it at one input. -/
def combineLocalWrong : ChangeSpec := { name := "combineLocal", fn := fun _ => fun
  | [d] => { results := [.lit (.bool false)], args := [d] }
  | _ => none }
def CombineLocalWrongFalsely : Prop := combineLocalRow.holds Try.pinned (OpenSpec.ofChange combineLocalWrong)

/- THE SECOND FORM. 'bulk': how many values and letters a reading holds, each counted each time it is reached (what is shared counts as often as it is met; a slice's spare places count too). A statement '..UptoSaid' is the law's where the arguments, and the package variables that the reading takes, are together of bulk at most 1048576: NARROWER than '..Said'. Prove '..Said' where nothing that the law and all that it calls make is longer than what came in: it says more and counts as full. Else prove '..UptoSaid'. A law counts once. -/
mutual
def uptoBulk {H : Type} : DataW H → Nat
  | .lit (.string bytes) => bytes.length + 1
  | .lit _ => 1
  | .nil => 1
  | .ptr d => uptoBulk d + 1
  | .slice elems spare => uptoBulkAll elems + uptoBulkAll spare + 1
  | .agg parts => uptoBulkAll parts + 1
  | .iface _ d => uptoBulk d + 1
  | .map entries => uptoBulkEntries entries + 1
  | .held _ => 1
def uptoBulkAll {H : Type} : List (DataW H) → Nat
  | [] => 0
  | d :: r => uptoBulk d + uptoBulkAll r
def uptoBulkEntries {H : Type} : List (Lit × DataW H) → Nat
  | [] => 0
  | x :: r => uptoBulkEntry x + uptoBulkEntries r
def uptoBulkEntry {H : Type} : Lit × DataW H → Nat
  | (.string bytes, d) => bytes.length + uptoBulk d + 1
  | (_, d) => uptoBulk d + 1
 end
def uptoSmall : (H : Type) → List (DataW H) → Bool := fun _ ds => decide (uptoBulkAll ds ≤ 1048576)
def OpenSpec.upto (s : _root_.Go.ChangeSpec) : _root_.Go.OpenSpec := { _root_.Go.OpenSpec.ofChange s with cond := some uptoSmall }

/-- 'probitylaw21.CombineMore', WHERE WHAT IT READS IS OF BULK AT MOST 1048576: true; the input reads as it did. -/
def combineMoreUptoRow : OpenClaim := { program := "ytmkjcheafdionaa", sum := "2e9230304928d682df1729f06527e204d8e9e05c8f5b912969f0e3072a2610ca", func := "probity/probitylaw21.CombineMore", spec := "combineMore", inPlace := ["math/bits.Add64", "math/bits.Sub64"], unfollowed := true, recurses := true, named := ["math/bits.divideError", "math/bits.overflowError"], apart := false, narrowed := true }
def CombineMoreUptoSaid : Prop := combineMoreUptoRow.holds Try.pinned (OpenSpec.upto combineMoreSpec)

/-- 'probitylaw21.CombineLosers', WHERE WHAT IT READS IS OF BULK AT MOST 1048576: true; the input reads as it did. -/
def combineLosersUptoRow : OpenClaim := { program := "ytmkjcheafdionaa", sum := "2e9230304928d682df1729f06527e204d8e9e05c8f5b912969f0e3072a2610ca", func := "probity/probitylaw21.CombineLosers", spec := "combineLosers", inPlace := ["math/bits.Add64", "math/bits.Sub64"], unfollowed := true, recurses := true, named := ["math/bits.divideError", "math/bits.overflowError"], apart := false, narrowed := true }
def CombineLosersUptoSaid : Prop := combineLosersUptoRow.holds Try.pinned (OpenSpec.upto combineLosersSpec)

/-- 'probitylaw21.CombineWrong', WHERE WHAT IT READS IS OF BULK AT MOST 1048576: true; the input reads as it did. -/
def combineWrongUptoRow : OpenClaim := { program := "ytmkjcheafdionaa", sum := "2e9230304928d682df1729f06527e204d8e9e05c8f5b912969f0e3072a2610ca", func := "probity/probitylaw21.CombineWrong", spec := "combineWrong", inPlace := ["math/bits.Add64", "math/bits.Sub64"], unfollowed := true, recurses := true, named := ["math/bits.divideError", "math/bits.overflowError"], apart := false, narrowed := true }
def CombineWrongUptoSaid : Prop := combineWrongUptoRow.holds Try.pinned (OpenSpec.upto combineWrongSpec)

/-- 'probitylaw21.CombineLocal', WHERE WHAT IT READS IS OF BULK AT MOST 1048576: true; the input reads as it did. -/
def combineLocalUptoRow : OpenClaim := { program := "ytmkjcheafdionaa", sum := "2e9230304928d682df1729f06527e204d8e9e05c8f5b912969f0e3072a2610ca", func := "probity/probitylaw21.CombineLocal", spec := "combineLocal", inPlace := ["math/bits.Add64", "math/bits.Sub64"], unfollowed := true, recurses := true, named := ["math/bits.divideError", "math/bits.overflowError"], apart := false, narrowed := true }
def CombineLocalUptoSaid : Prop := combineLocalUptoRow.holds Try.pinned (OpenSpec.upto combineLocalSpec)

end Rows
end Go.Proofs.Ytmkjcheafdionaa
