/- What the claim says of the program, one by one. Conditions: none. -/
import Derived.Test.YtmfkimnmklnppaaGreatDoorHQE
namespace Go.Proofs.YtmfkimnmklnppaaGreatDoor
open Go Go.ChangeShapes Go.WideShapes Go.ChangeAt Go.RowKit
set_option maxRecDepth 100000
theorem cl1:Rows.topRulesRow.inPlace=Tryz.prog.inPlace 3:=by kernel_rfl
theorem cl2:Rows.topRulesRow.unfollowed=Tryz.prog.unfollowed 3:=by kernel_rfl
theorem cl3:Rows.topRulesRow.recurses=Tryz.prog.recurses 3:=by kernel_rfl
theorem cl4:Rows.topRulesRow.named=Tryz.prog.varsNamed 3:=by kernel_rfl
theorem closed:joinedFacts Tryz.prog 3 Tryz.f3 (OpenSpec.ofChange Rows.topRulesSpec).bare Rows.topRulesRow=true:=by
 unfold joinedFacts
 rw[←cl1,←cl2,←cl3,←cl4]
 kernel_rfl
end Go.Proofs.YtmfkimnmklnppaaGreatDoor
