/- Parse: a text in brackets is split into the brackets and what it is split into alone. -/
import Derived.Test.YtnjnadlgndjnbaaDoorYGp
import Derived.Test.YtnjnadlgndjnbaaDoorYFb
set_option linter.unusedVariables false
set_option linter.unusedSimpArgs false
namespace Go.Proofs.YtnjnadlgndjnbaaDoor.Fp
open Go.RowKit Go.Proofs.YtnjnadlgndjnbaaDoor.Q
open Lx (letB digB wcB kindOf wordLen wscan signLen adv betw comLen isCom blankB lexStep lexFrom lexAll toks Tk LexR)
def key (t : Tk) : Key := (t.kind, t.text.data.toList, t.num)
def keys (l : List Tk) : List Key := l.map key
structure Wrap (pre s post y : ByteArray) : Prop where
  size : y.size = pre.size + s.size + post.size
  h1 : ∀ q, q < pre.size → Lx.bt y q = Lx.bt pre q
  h2 : ∀ q, q < s.size → Lx.bt y (pre.size + q) = Lx.bt s q
  h3 : ∀ q, Lx.bt y (pre.size + s.size + q) = Lx.bt post q
end Go.Proofs.YtnjnadlgndjnbaaDoor.Fp
