/- What the law's claim says of the program, one by one. Conditions: none. -/
import Derived.Test.YtipjnbbfnlfmjaaGreatDoorDRW
namespace Go.Proofs.YtipjnbbfnlfmjaaGreatDoor
open Go Go.ChangeShapes Go.WideShapes Go.ChangeAt Go.RowKit
set_option maxRecDepth 100000
theorem cl1:Rows.topTouchesRow.inPlace=Tryz.prog.inPlace 3:=by kernel_rfl
theorem cl2:Rows.topTouchesRow.unfollowed=Tryz.prog.unfollowed 3:=by kernel_rfl
theorem cl3:Rows.topTouchesRow.recurses=Tryz.prog.recurses 3:=by kernel_rfl
theorem cl4:Rows.topTouchesRow.named=Tryz.prog.varsNamed 3:=by kernel_rfl
theorem closed:joinedFacts Tryz.prog 3 Tryz.f3 (OpenSpec.ofChange Rows.topTouchesSpec).bare Rows.topTouchesRow=true:=by
 unfold joinedFacts
 rw[← cl1,← cl2,← cl3,← cl4]
 kernel_rfl
