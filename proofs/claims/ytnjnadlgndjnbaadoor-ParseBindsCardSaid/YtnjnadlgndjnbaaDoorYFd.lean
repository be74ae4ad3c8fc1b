/- Parse: brackets around an expression; what an index, a call, a cast and ! are of it. -/
import Derived.Test.YtnjnadlgndjnbaaDoorYFb
set_option linter.unusedVariables false
set_option linter.unusedSimpArgs false
namespace Go.Proofs.YtnjnadlgndjnbaaDoor.Fp
open Go.Proofs.YtnjnadlgndjnbaaDoor.A (sizeE sizeEs)
def fuelOf (l : List Key) : Nat := 24 * l.length + 25
def parseK (l : List Key) : Option (Res SE) := expr (fuelOf l) 1 l
theorem parseK_some (l : List Key) : parseK l ≠ none := (enough _).1 1 l (by unfold fuelOf; omega)
def kQ : Key := (4, [93], 0)
end Go.Proofs.YtnjnadlgndjnbaaDoor.Fp
