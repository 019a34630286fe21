/- What the listed variables give, and a world that holds them. Conditions: none. -/
import Derived.Test.YtfclokkfnkieoaaGreatDoorCards
import Derived.Test.YtfclokkfnkieoaaGreatDoorTie
import Derived.WalkKit
import Derived.ProofKit
import Derived.OpenShut
import Derived.Deep.DeepHandedRow
import Derived.Lib.LaidTab
import Derived.Stop.LaidErr
import Derived.Test.YtfclokkfnkieoaaGreatDoorPwK
import Derived.Test.YtfclokkfnkieoaaGreatDoorRG
namespace Go.Proofs.YtfclokkfnkieoaaGreatDoor
open Go Go.ChangeShapes Go.WideShapes Go.ChangeAt Go.RowKit

set_option maxRecDepth 100000
noncomputable abbrev LL : List (String × DataW Unit) := Rows.ratioSumsRow.laid

theorem gTab : Tryz.prog.globalNamed "internal/strconv.uint64pow10" = some 5 := by kernel_rfl
theorem gTabType : (Tryz.prog.globals[5]?).map (·.type) = some 119 := by kernel_rfl
theorem cellsTab : Tryz.prog.cellsOf 119 = 20 := by kernel_rfl
theorem cellsU : Tryz.prog.cellsOf 58 = 1 := by kernel_rfl
theorem gEs : Tryz.prog.globalNamed "strconv.ErrSyntax" = some 1 := by kernel_rfl
theorem gEr : Tryz.prog.globalNamed "strconv.ErrRange" = some 2 := by kernel_rfl
theorem gEsType : (Tryz.prog.globals[1]?).map (·.type) = some 51 := by kernel_rfl
theorem gErType : (Tryz.prog.globals[2]?).map (·.type) = some 51 := by kernel_rfl

def only (n : String) (x : String × DataW Unit) : Bool := x.1 == n

theorem tab_of {W : World} (h : laidMetH Tryz.prog LL W) : Lib.TabIs Tryz.prog W "internal/strconv.uint64pow10" .u64 Lib.pow10Tab :=
  Lib.tabIs_of_head (rest := []) gTab gTabType Tryz.underlying119 Tryz.underlying58 cellsU cellsTab (laidMetH.filter (only "internal/strconv.uint64pow10") h)

theorem iface_of {W : World} {g t : Nat} {n : String} {text : List UInt8} (hg : Tryz.prog.globalNamed n = some g) (ht : (Tryz.prog.globals[g]?).map (·.type) = some t) (hu : t = 51)
    (h : laidMet Tryz.prog [(n, .iface "*errors.errorString" (.ptr (.agg [.lit (.string text)])))] W) : ∃ t p, W.cell? ⟨g, 0, none⟩ = some (.iface t p) := by
  subst hu
  obtain ⟨ps, ⟨g', t', cs, fuel, p, q, hg', ht', hvar, hd, _, _⟩, _⟩ := h
  obtain rfl := Option.some.inj (hg.symm.trans hg')
  obtain rfl := Option.some.inj (ht.symm.trans ht')
  have key : ∃ u v, cs.toList = [.iface u v] := by
    cases fuel with
    | zero => simp [DataW.trod] at hd
    | succ m =>
      unfold DataW.trod at hd
      rw [Tryz.underlying51] at hd
      simp only at hd
      split at hd
      all_goals first
        | (cases hd; done)
        | (rename_i u v hc; exact ⟨_, _, hc⟩)
        | (rename_i hc; exact ⟨_, _, hc⟩)
        | simp_all
  obtain ⟨u, v, hc⟩ := key
  have h0 := World.var?_cell hg hvar 0
  refine ⟨u, v, ?_⟩
  rw [h0]
  have : cs = #[.iface u v] := by
    apply Array.toList_inj.1
    rw [hc]
  rw [this]
  rfl

theorem glob {W : World} (h : laidMetH Tryz.prog LL W) (hsh : W.ShapedOpen Tryz.prog) : Gl W :=
  ⟨tab_of h, Tryz.laysM145.s1_3 W hsh, iface_of gEs gEsType rfl (laidMetH.filter (only "strconv.ErrSyntax") h), iface_of gEr gErType rfl (laidMetH.filter (only "strconv.ErrRange") h)⟩

/-- So many blocks has the settled world. -/
noncomputable def low0 : Nat := (World.holding Tryz.prog default ⟨#[], #[], []⟩).heap.size
/-- The settled world, the listed variables holding what their initialisers lay. -/
noncomputable def laidWorld (os : Os) : World :=
  let w0 := World.holding Tryz.prog os ⟨#[.cells #[.string { data := #[118, 97, 108, 117, 101, 32, 111, 117, 116, 32, 111, 102, 32, 114, 97, 110, 103, 101] }] 130, .cells #[.string { data := #[105, 110, 118, 97, 108, 105, 100, 32, 115, 121, 110, 116, 97, 120] }] 130], #[], []⟩
  let h0 := w0.heap
  let h1 := h0.modify 6 fun o => match o with
    | .cells _ t frozen => .cells #[.int .u8 0, .int .u8 1, .int .u8 28, .int .u8 2, .int .u8 29, .int .u8 14, .int .u8 24, .int .u8 3, .int .u8 30, .int .u8 22, .int .u8 20, .int .u8 15, .int .u8 25, .int .u8 17, .int .u8 4, .int .u8 8, .int .u8 31, .int .u8 27, .int .u8 13, .int .u8 23, .int .u8 21, .int .u8 19, .int .u8 16, .int .u8 7, .int .u8 26, .int .u8 12, .int .u8 18, .int .u8 6, .int .u8 11, .int .u8 5, .int .u8 10, .int .u8 9] t frozen
    | o => o
  let h2 := h1.modify 7 fun o => match o with
    | .cells _ t frozen => .cells #[.int .u8 0, .int .u8 1, .int .u8 56, .int .u8 2, .int .u8 57, .int .u8 49, .int .u8 28, .int .u8 3, .int .u8 61, .int .u8 58, .int .u8 42, .int .u8 50, .int .u8 38, .int .u8 29, .int .u8 17, .int .u8 4, .int .u8 62, .int .u8 47, .int .u8 59, .int .u8 36, .int .u8 45, .int .u8 43, .int .u8 51, .int .u8 22, .int .u8 53, .int .u8 39, .int .u8 33, .int .u8 30, .int .u8 24, .int .u8 18, .int .u8 12, .int .u8 5, .int .u8 63, .int .u8 55, .int .u8 48, .int .u8 27, .int .u8 60, .int .u8 41, .int .u8 37, .int .u8 16, .int .u8 46, .int .u8 35, .int .u8 44, .int .u8 21, .int .u8 52, .int .u8 32, .int .u8 23, .int .u8 11, .int .u8 54, .int .u8 26, .int .u8 40, .int .u8 15, .int .u8 34, .int .u8 20, .int .u8 31, .int .u8 10, .int .u8 25, .int .u8 14, .int .u8 19, .int .u8 9, .int .u8 13, .int .u8 8, .int .u8 7, .int .u8 6] t frozen
    | o => o
  let h3 := h2.modify 5 fun o => match o with
    | .cells _ t frozen => .cells #[.int .u64 1, .int .u64 10, .int .u64 100, .int .u64 1000, .int .u64 10000, .int .u64 100000, .int .u64 1000000, .int .u64 10000000, .int .u64 100000000, .int .u64 1000000000, .int .u64 10000000000, .int .u64 100000000000, .int .u64 1000000000000, .int .u64 10000000000000, .int .u64 100000000000000, .int .u64 1000000000000000, .int .u64 10000000000000000, .int .u64 100000000000000000, .int .u64 1000000000000000000, .int .u64 10000000000000000000] t frozen
    | o => o
  let h4 := h3.modify 2 fun o => match o with
    | .cells _ t frozen => .cells #[.iface 128 (.pointer (some ⟨low0, 0, none⟩))] t frozen
    | o => o
  let h5 := h4.modify 1 fun o => match o with
    | .cells _ t frozen => .cells #[.iface 128 (.pointer (some ⟨low0 + 1, 0, none⟩))] t frozen
    | o => o
  { w0 with heap := h5 }
theorem laid_met (os : Os) (args : Array Value) : laidMet Tryz.prog LL ((laidWorld os).forCall (fun _ _ => 0) ⟨#[], args, []⟩).memory :=
  laidMet_of_run' 8 (by kernel_rfl) (by kernel_rfl)
end Go.Proofs.YtfclokkfnkieoaaGreatDoor
