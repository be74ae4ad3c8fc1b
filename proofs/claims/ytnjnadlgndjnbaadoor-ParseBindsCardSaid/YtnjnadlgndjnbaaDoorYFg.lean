/- Parse: what parse.Expr answers; what it answers of brackets around an expression. -/
import Derived.Test.YtnjnadlgndjnbaaDoorYFc
import Derived.Test.YtnjnadlgndjnbaaDoorYFd
import Derived.Test.YtnjnadlgndjnbaaDoorYGs
set_option linter.unusedVariables false
set_option linter.unusedSimpArgs false
namespace Go.Proofs.YtnjnadlgndjnbaaDoor.Fp
open Go.RowKit Go.Proofs.YtnjnadlgndjnbaaDoor.Q
open Lx (adv lexAll Tk LexR)
open Go.Proofs.YtnjnadlgndjnbaaDoor.A (sameE checkN tooLong rightN rightE rightEs exprB Nd)
abbrev Flt := Int × Int × Int
def zE : SE := ⟨0, 0, 0, 0, ⟨#[]⟩, []⟩
def posOf (s : ByteArray) (ts : List Tk) (r : List Key) : Int × Int := match ts.drop (ts.length - r.length) with
  | [] => adv s 0 (1, 1) s.size
  | t :: _ => (t.line, t.col)
def syn (s : ByteArray) (ts : List Tk) (r : List Key) : Flt := (14, posOf s ts r)
def judged (e : SE) : SE × Flt := if checkN [.ex e] = 0 then (e, 0, 0, 0) else if checkN [.ex e] = 3 then (zE, 3, 0, 0) else (zE, 14, 0, 0)
def parseRes (s : ByteArray) : SE × Flt := match (lexAll s).2 with
  | some lc => (zE, 11, lc)
  | none => match parseK (keys (lexAll s).1) with
    | some (.ok e []) => judged e
    | some (.ok e r) => (zE, syn s (lexAll s).1 r)
    | some (.bad r) => (zE, syn s (lexAll s).1 r)
    | none => (zE, 0, 0, 0)
end Go.Proofs.YtnjnadlgndjnbaaDoor.Fp
