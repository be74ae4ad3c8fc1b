/- AstNames: the walk of the printed law, and its plain law. -/
import Derived.Test.YtgkhpecllhiidaaDoorCn
set_option linter.unusedVariables false
set_option linter.unusedSimpArgs false
namespace Go.Proofs.YtgkhpecllhiidaaDoor.A
open Go.RowKit Go.Shelf Go.Proofs.YtgkhpecllhiidaaDoor.As Go.Proofs.YtgkhpecllhiidaaDoorW.PrintWords Go.Proofs.YtgkhpecllhiidaaDoorW.PrintLast Go.Proofs.YtgkhpecllhiidaaDoorW.PrintMore
set_option maxRecDepth 100000 in
theorem astNames_pure : lamplighterlaw06_AstNames.Pure := ⟨40, by kernel_rfl⟩
theorem astNames_any (W : World) (hG : Keys W) : Calls Tryd.prog 8 #[] W fun e W' => e = .returned (.bool true) ∧ Below W.heap.size W W' := lamplighterlaw06_AstNames.walk astNames_pure W hG
end Go.Proofs.YtgkhpecllhiidaaDoor.A
