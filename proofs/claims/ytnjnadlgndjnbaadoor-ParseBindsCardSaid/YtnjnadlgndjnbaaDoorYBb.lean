/- Short words for what a call that only makes leaves. -/
import Derived.Test.YtnjnadlgndjnbaaDoorYHa
import Derived.Test.YtnjnadlgndjnbaaDoorYW
namespace Go.Proofs.YtnjnadlgndjnbaaDoor.A
open Go.RowKit
theorem bst {w W W' : World} (h : Lx.Hd (Below w.heap.size w W)) (k : Below W.heap.size W W') : Lx.Hd (Below w.heap.size w W') := ⟨Go.Proofs.YtnjnadlgndjnbaaDoorW.PrintWords.below_step h.out k⟩
theorem bto {w W W' : World} (h : Lx.Hd (Below w.heap.size w W)) (k : Lx.Hd (Below W.heap.size W W')) : Below w.heap.size w W' := h.out.trans (k.out.mono h.out.size)
end Go.Proofs.YtnjnadlgndjnbaaDoor.A
