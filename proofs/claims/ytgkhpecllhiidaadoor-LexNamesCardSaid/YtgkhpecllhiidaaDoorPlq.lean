/- The plain law of LexNames: reckoned by the kernel. -/
import Derived.Test.YtgkhpecllhiidaaDoorPh
import Derived.Test.YtgkhpecllhiidaaDoorQxN
namespace Go.Proofs.YtgkhpecllhiidaaDoor.Q
theorem lexNames_pure : lamplighterlaw05_LexNames.Pure := ⟨30, by kernel_rfl⟩
end Go.Proofs.YtgkhpecllhiidaaDoor.Q
