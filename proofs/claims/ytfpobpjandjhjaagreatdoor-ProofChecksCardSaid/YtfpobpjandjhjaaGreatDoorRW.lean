/- What the listed variables give, and a world that holds them. Conditions: none. -/
import Derived.Test.YtfpobpjandjhjaaGreatDoorCards
import Derived.Test.YtfpobpjandjhjaaGreatDoorTie
import Derived.Deep.DeepHandedRow
import Derived.Lib.LaidTab
import Derived.Test.YtfpobpjandjhjaaGreatDoorCEA
import Derived.Test.YtfpobpjandjhjaaGreatDoorPE2
namespace Go.Proofs.YtfpobpjandjhjaaGreatDoor
open Go Go.ChangeShapes Go.WideShapes Go.ChangeAt Go.RowKit
set_option maxRecDepth 100000
noncomputable abbrev LL:List (String × DataW Unit):=Rows.proofBoundsRow.laid
theorem gTab:Tryz.prog.globalNamed "internal/strconv.uint64pow10"=some 0:=by kernel_rfl
theorem qkm:(Tryz.prog.globals[0]?).map (·.type)=some 238:=by kernel_rfl
theorem qkn:Tryz.prog.cellsOf 238=20:=by kernel_rfl
theorem cellsU:Tryz.prog.cellsOf 124=1:=by kernel_rfl
def only (n:String)(x:String × DataW Unit):Bool:=x.1 == n
theorem glob {W:World}(h:laidMetH Tryz.prog LL W):GlT W :=
 Lib.tabIs_of_head (rest:=[]) gTab qkm Tryz.underlying238 Tryz.underlying124 cellsU qkn (laidMetH.filter (only "internal/strconv.uint64pow10") h)
noncomputable def q9n (os:Os):World :=
 let w0:=World.holding Tryz.prog os ⟨#[],#[],[]⟩
 let h0:=w0.heap
 let h1:=h0.modify 8 fun o=>match o with
  | .cells _ t frozen=>.cells #[.int .u8 0,.int .u8 1,.int .u8 28,.int .u8 2,.int .u8 29,.int .u8 14,.int .u8 24,.int .u8 3,.int .u8 30,.int .u8 22,.int .u8 20,.int .u8 15,.int .u8 25,.int .u8 17,.int .u8 4,.int .u8 8,.int .u8 31,.int .u8 27,.int .u8 13,.int .u8 23,.int .u8 21,.int .u8 19,.int .u8 16,.int .u8 7,.int .u8 26,.int .u8 12,.int .u8 18,.int .u8 6,.int .u8 11,.int .u8 5,.int .u8 10,.int .u8 9] t frozen
  | o=>o
 let h2:=h1.modify 9 fun o=>match o with
  | .cells _ t frozen=>.cells #[.int .u8 0,.int .u8 1,.int .u8 56,.int .u8 2,.int .u8 57,.int .u8 49,.int .u8 28,.int .u8 3,.int .u8 61,.int .u8 58,.int .u8 42,.int .u8 50,.int .u8 38,.int .u8 29,.int .u8 17,.int .u8 4,.int .u8 62,.int .u8 47,.int .u8 59,.int .u8 36,.int .u8 45,.int .u8 43,.int .u8 51,.int .u8 22,.int .u8 53,.int .u8 39,.int .u8 33,.int .u8 30,.int .u8 24,.int .u8 18,.int .u8 12,.int .u8 5,.int .u8 63,.int .u8 55,.int .u8 48,.int .u8 27,.int .u8 60,.int .u8 41,.int .u8 37,.int .u8 16,.int .u8 46,.int .u8 35,.int .u8 44,.int .u8 21,.int .u8 52,.int .u8 32,.int .u8 23,.int .u8 11,.int .u8 54,.int .u8 26,.int .u8 40,.int .u8 15,.int .u8 34,.int .u8 20,.int .u8 31,.int .u8 10,.int .u8 25,.int .u8 14,.int .u8 19,.int .u8 9,.int .u8 13,.int .u8 8,.int .u8 7,.int .u8 6] t frozen
  | o=>o
 let h3:=h2.modify 0 fun o=>match o with
  | .cells _ t frozen=>.cells #[.int .u64 1,.int .u64 10,.int .u64 100,.int .u64 1000,.int .u64 10000,.int .u64 100000,.int .u64 1000000,.int .u64 10000000,.int .u64 100000000,.int .u64 1000000000,.int .u64 10000000000,.int .u64 100000000000,.int .u64 1000000000000,.int .u64 10000000000000,.int .u64 100000000000000,.int .u64 1000000000000000,.int .u64 10000000000000000,.int .u64 100000000000000000,.int .u64 1000000000000000000,.int .u64 10000000000000000000] t frozen
  | o=>o
 { w0 with heap:=h3 }
theorem qko (os:Os)(args:Array Value):laidMet Tryz.prog LL ((q9n os).forCall (fun _ _=>0) ⟨#[],args,[]⟩).memory :=
 laidMet_of_run' 8 (by kernel_rfl) (by kernel_rfl)
end Go.Proofs.YtfpobpjandjhjaaGreatDoor
