/- Parse: the parser of statements and programs as a plain function of the tokens that are left. -/
import Derived.Test.YtnjnadlgndjnbaaDoorYFg
section
set_option linter.unusedVariables false
set_option linter.unusedSimpArgs false
namespace Go.Proofs.YtnjnadlgndjnbaaDoor.Fp
open Lx (Tk)
abbrev SS := Go.Proofs.YtnjnadlgndjnbaaDoor.A.SS
abbrev SD := Go.Proofs.YtnjnadlgndjnbaaDoor.A.SD
abbrev SG := Go.Proofs.YtnjnadlgndjnbaaDoor.A.SG
abbrev ST := Go.Proofs.YtnjnadlgndjnbaaDoor.A.ST
abbrev SP := Go.Proofs.YtnjnadlgndjnbaaDoor.A.SP
abbrev SQ := Go.Proofs.YtnjnadlgndjnbaaDoor.A.SQ
inductive ResT (α : Type) where
  | ok (a : α) (rest : List Tk)
  | bad (rest : List Tk)
def ResT.bind {α β : Type} (r : Option (ResT α)) (f : α → List Tk → Option (ResT β)) : Option (ResT β) := match r with
  | none => none
  | some (.bad l) => some (.bad l)
  | some (.ok a l) => f a l
def isK (s : List UInt8) (l : List Tk) : Bool := isT s (keys l)
def mustT (s : List UInt8) (l : List Tk) : Option (ResT Unit) := if isK s l then some (.ok () l.tail) else some (.bad l)
def nameT (l : List Tk) : Option (ResT ByteArray) := match l with
  | [] => some (.bad [])
  | t :: r => if t.kind = 1 then some (.ok t.text r) else some (.bad (t :: r))
def numT (l : List Tk) : Option (ResT Int) := match l with
  | [] => some (.bad [])
  | t :: r => if t.kind = 3 then some (.ok t.num r) else some (.bad (t :: r))
def typeT (l : List Tk) : Int := typeAt (keys l)
def lineT (e : Int) : List Tk → Int
  | [] => e
  | t :: _ => t.line
def backT (l : List Tk) (r : List Key) : List Tk := l.drop (l.length - r.length)
def exprT (l : List Tk) : Option (ResT SE) := match parseK (keys l) with
  | none => none
  | some (.ok e r) => some (.ok e (backT l r))
  | some (.bad r) => some (.bad (backT l r))
def testT (l : List Tk) : Option (ResT SE) := ResT.bind (mustT [40] l) fun _ l => ResT.bind (exprT l) fun e l => ResT.bind (mustT [41] l) fun _ l => some (.ok e l)
def callT (l : List Tk) : Option (ResT (List SE)) := match args (fuelOf (keys l)) (keys l) with
  | none => none
  | some (.ok a r) => some (.ok a (backT l r))
  | some (.bad r) => some (.bad (backT l r))
def namesT : Nat → List ByteArray → List Tk → Option (ResT (List ByteArray))
  | 0, _, _ => none
  | k + 1, a, l => if isK [44] l then ResT.bind (nameT l.tail) fun s r => namesT k (a ++ [s]) r else ResT.bind (mustT [41] l) fun _ r => some (.ok a r)
def wIf : List UInt8 := [105, 102]
def wElse : List UInt8 := [101, 108, 115, 101]
def wWhile : List UInt8 := [119, 104, 105, 108, 101]
def wAtomic : List UInt8 := [97, 116, 111, 109, 105, 99]
def wReturn : List UInt8 := [114, 101, 116, 117, 114, 110]
def wEnable : List UInt8 := [101, 110, 97, 98, 108, 101]
def wDisable : List UInt8 := [100, 105, 115, 97, 98, 108, 101]
def wLevel : List UInt8 := [108, 101, 118, 101, 108]
def semi {α : Type} (a : α) (l : List Tk) : Option (ResT α) := ResT.bind (mustT [59] l) fun _ l => some (.ok a l)
def stmtW (le : Int) (blk : List Tk → Option (ResT (List SS))) (l : List Tk) : Option (ResT SS) :=
    if typeT l ≠ 0 then ResT.bind (nameT l.tail) fun s r => ResT.bind (mustT [61] r) fun _ r => ResT.bind (exprT r) fun e r => semi ⟨1, lineT le l, typeT l, 0, s, [], [], [e], [], []⟩ r
    else if isK wIf l then ResT.bind (testT l.tail) fun e r => ResT.bind (blk r) fun a r => if isK wElse r then ResT.bind (blk r.tail) fun b r => some (.ok ⟨4, lineT le l, 0, 0, ⟨#[]⟩, [], [], [e], a, b⟩ r) else some (.ok ⟨4, lineT le l, 0, 0, ⟨#[]⟩, [], [], [e], a, []⟩ r)
    else if isK wWhile l then ResT.bind (testT l.tail) fun e r => ResT.bind (blk r) fun a r => some (.ok ⟨5, lineT le l, 0, 0, ⟨#[]⟩, [], [], [e], a, []⟩ r)
    else if isK wAtomic l then ResT.bind (mustT [40] l.tail) fun _ r => ResT.bind (nameT r) fun s r => ResT.bind (namesT (r.length + 1) [s] r) fun ns r => ResT.bind (blk r) fun a r => some (.ok ⟨10, lineT le l, 0, 0, ⟨#[]⟩, ns, [], [], a, []⟩ r)
    else if isK wReturn l then ResT.bind (exprT l.tail) fun e r => semi ⟨6, lineT le l, 0, 0, ⟨#[]⟩, [], [], [e], [], []⟩ r
    else if isK wEnable l then ResT.bind (numT l.tail) fun n r => semi ⟨7, lineT le l, 0, n, ⟨#[]⟩, [], [], [], [], []⟩ r
    else if isK wDisable l then ResT.bind (numT l.tail) fun n r => semi ⟨8, lineT le l, 0, n, ⟨#[]⟩, [], [], [], [], []⟩ r
    else if isK wLevel l then ResT.bind (numT l.tail) fun n r => semi ⟨9, lineT le l, 0, n, ⟨#[]⟩, [], [], [], [], []⟩ r
    else ResT.bind (nameT l) fun s r =>
      if isK [40] r then ResT.bind (callT r.tail) fun a r => semi ⟨3, lineT le l, 0, 0, ⟨#[]⟩, [], [], [⟨4, 0, 0, 0, s, a⟩], [], []⟩ r
      else if isK [91] r then ResT.bind (exprT r.tail) fun i r => ResT.bind (mustT [93] r) fun _ r => ResT.bind (mustT [61] r) fun _ r => ResT.bind (exprT r) fun e r => semi ⟨2, lineT le l, 0, 0, s, [], [i], [e], [], []⟩ r
      else ResT.bind (mustT [61] r) fun _ r => ResT.bind (exprT r) fun e r => semi ⟨2, lineT le l, 0, 0, s, [], [], [e], [], []⟩ r
end Go.Proofs.YtnjnadlgndjnbaaDoor.Fp
end

section
set_option linter.unusedVariables false
set_option linter.unusedSimpArgs false
namespace Go.Proofs.YtnjnadlgndjnbaaDoor.Fp
open Lx (Tk)
theorem bind_some {α β : Type} {r : Option (ResT α)} {f : α → List Tk → Option (ResT β)} (h1 : r ≠ none) (h2 : ∀ a l, r = some (.ok a l) → f a l ≠ none) : ResT.bind r f ≠ none := by
  cases hr : r with
  | none => exact absurd hr h1
  | some y => cases y with
    | bad l => intro h; cases h
    | ok a l => exact h2 a l hr
end Go.Proofs.YtnjnadlgndjnbaaDoor.Fp
end

section
set_option linter.unusedVariables false
set_option linter.unusedSimpArgs false
namespace Go.Proofs.YtnjnadlgndjnbaaDoor.Fp
open Lx (Tk lexAll adv)
open Go.Proofs.YtnjnadlgndjnbaaDoor.A (checkN checkP)
def endOf (s : ByteArray) : Int × Int := adv s 0 (1, 1) s.size
def placeOf (s : ByteArray) : List Tk → Int × Int
  | [] => endOf s
  | t :: _ => (t.line, t.col)
def zP : SP := ⟨0, [], [], []⟩
end Go.Proofs.YtnjnadlgndjnbaaDoor.Fp
end
