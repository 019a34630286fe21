/- What the listed variables give, and a world that holds them. Conditions: none. -/
import Derived.Test.YtipjnbbfnlfmjaaGreatDoorCards
import Derived.Test.YtipjnbbfnlfmjaaGreatDoorTie
import Derived.Deep.DeepHandedRow
import Derived.Lib.LaidTab
import Derived.Test.YtipjnbbfnlfmjaaGreatDoorDI
namespace Go.Proofs.YtipjnbbfnlfmjaaGreatDoor
open Go Go.ChangeShapes Go.WideShapes Go.ChangeAt Go.RowKit
set_option maxRecDepth 100000
noncomputable abbrev LL:List (String × DataW Unit):=Rows.topTouchesRow.laid
theorem gTab:Tryz.prog.globalNamed "internal/strconv.uint64pow10"=some 0:=by kernel_rfl
theorem qmr:(Tryz.prog.globals[0]?).map (·.type)=some 350:=by kernel_rfl
theorem qms:Tryz.prog.cellsOf 350=20:=by kernel_rfl
theorem cellsU:Tryz.prog.cellsOf 172=1:=by kernel_rfl
def only (n:String)(x:String × DataW Unit):Bool:=x.1 == n
theorem tab_of {W:World}(h:laidMetH Tryz.prog LL W):Lib.TabIs Tryz.prog W "internal/strconv.uint64pow10" .u64 Lib.pow10Tab :=
 Lib.tabIs_of_head (rest:=[]) gTab qmr Tryz.underlying350 Tryz.underlying172 cellsU qms (laidMetH.filter (only "internal/strconv.uint64pow10") h)
theorem glob {W:World}(h:laidMetH Tryz.prog LL W):GlT W:=tab_of h
noncomputable def low0:Nat:=(World.holding Tryz.prog default ⟨#[],#[],[]⟩).heap.size
noncomputable def q82 (os:Os):World :=
 let w0:=World.holding Tryz.prog os ⟨#[.cells #[.string { data:=#[118,97,108,117,101,32,111,117,116,32,111,102,32,114,97,110,103,101] }] 420,.cells #[.string { data:=#[105,110,118,97,108,105,100,32,115,121,110,116,97,120] }] 420],#[],[]⟩
 let h0:=w0.heap
 let h1:=h0.modify 4 fun o=>match o with
  | .cells _ t frozen=>.cells #[.int .u8 0,.int .u8 1,.int .u8 28,.int .u8 2,.int .u8 29,.int .u8 14,.int .u8 24,.int .u8 3,.int .u8 30,.int .u8 22,.int .u8 20,.int .u8 15,.int .u8 25,.int .u8 17,.int .u8 4,.int .u8 8,.int .u8 31,.int .u8 27,.int .u8 13,.int .u8 23,.int .u8 21,.int .u8 19,.int .u8 16,.int .u8 7,.int .u8 26,.int .u8 12,.int .u8 18,.int .u8 6,.int .u8 11,.int .u8 5,.int .u8 10,.int .u8 9] t frozen
  | o=>o
 let h2:=h1.modify 5 fun o=>match o with
  | .cells _ t frozen=>.cells #[.int .u8 0,.int .u8 1,.int .u8 56,.int .u8 2,.int .u8 57,.int .u8 49,.int .u8 28,.int .u8 3,.int .u8 61,.int .u8 58,.int .u8 42,.int .u8 50,.int .u8 38,.int .u8 29,.int .u8 17,.int .u8 4,.int .u8 62,.int .u8 47,.int .u8 59,.int .u8 36,.int .u8 45,.int .u8 43,.int .u8 51,.int .u8 22,.int .u8 53,.int .u8 39,.int .u8 33,.int .u8 30,.int .u8 24,.int .u8 18,.int .u8 12,.int .u8 5,.int .u8 63,.int .u8 55,.int .u8 48,.int .u8 27,.int .u8 60,.int .u8 41,.int .u8 37,.int .u8 16,.int .u8 46,.int .u8 35,.int .u8 44,.int .u8 21,.int .u8 52,.int .u8 32,.int .u8 23,.int .u8 11,.int .u8 54,.int .u8 26,.int .u8 40,.int .u8 15,.int .u8 34,.int .u8 20,.int .u8 31,.int .u8 10,.int .u8 25,.int .u8 14,.int .u8 19,.int .u8 9,.int .u8 13,.int .u8 8,.int .u8 7,.int .u8 6] t frozen
  | o=>o
 let h3:=h2.modify 0 fun o=>match o with
  | .cells _ t frozen=>.cells #[.int .u64 1,.int .u64 10,.int .u64 100,.int .u64 1000,.int .u64 10000,.int .u64 100000,.int .u64 1000000,.int .u64 10000000,.int .u64 100000000,.int .u64 1000000000,.int .u64 10000000000,.int .u64 100000000000,.int .u64 1000000000000,.int .u64 10000000000000,.int .u64 100000000000000,.int .u64 1000000000000000,.int .u64 10000000000000000,.int .u64 100000000000000000,.int .u64 1000000000000000000,.int .u64 10000000000000000000] t frozen
  | o=>o
 let h4:=h3.modify 3 fun o=>match o with
  | .cells _ t frozen=>.cells #[.iface 418 (.pointer (some ⟨low0,0,none⟩))] t frozen
  | o=>o
 let h5:=h4.modify 2 fun o=>match o with
  | .cells _ t frozen=>.cells #[.iface 418 (.pointer (some ⟨low0+1,0,none⟩))] t frozen
  | o=>o
 let h6:=h5.modify 7 fun o=>match o with
  | .cells _ t frozen=>.cells #[.int .u8 128,.int .u8 191,.int .u8 160,.int .u8 191,.int .u8 128,.int .u8 159,.int .u8 144,.int .u8 191,.int .u8 128,.int .u8 143,.int .u8 0,.int .u8 0,.int .u8 0,.int .u8 0,.int .u8 0,.int .u8 0,.int .u8 0,.int .u8 0,.int .u8 0,.int .u8 0,.int .u8 0,.int .u8 0,.int .u8 0,.int .u8 0,.int .u8 0,.int .u8 0,.int .u8 0,.int .u8 0,.int .u8 0,.int .u8 0,.int .u8 0,.int .u8 0] t frozen
  | o=>o
 let h7:=h6.modify 6 fun o=>match o with
  | .cells _ t frozen=>.cells (Go.Pinned.utf8FirstZ.map fun (n:Nat)=>Value.int .u8 (n:Int)).toArray t frozen
  | o=>o
 { w0 with heap:=h7 }
theorem qmt (os:Os)(args:Array Value):laidMet Tryz.prog LL ((q82 os).forCall (fun _ _=>0) ⟨#[],args,[]⟩).memory :=
 laidMet_of_run' 8 (by kernel_rfl) (by kernel_rfl)
