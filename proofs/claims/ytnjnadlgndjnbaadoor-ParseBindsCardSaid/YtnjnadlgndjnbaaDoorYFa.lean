/- Parse: the parser of expressions as a plain function of what is left of the tokens; a token that ends an expression may stand behind it. -/
import Derived.Test.YtnjnadlgndjnbaaDoorYAx0
set_option linter.unusedVariables false
set_option linter.unusedSimpArgs false
namespace Go.Proofs.YtnjnadlgndjnbaaDoor.Fp
abbrev SE := Go.Proofs.YtnjnadlgndjnbaaDoor.A.S26
abbrev Key := Int × List UInt8 × Int
inductive Res (α : Type) where
  | ok (a : α) (rest : List Key)
  | bad (rest : List Key)
def isT (s : List UInt8) : List Key → Bool
  | [] => false
  | k :: _ => (k.1 == 2 || k.1 == 4) && k.2.1 == s
def must {α : Type} (s : List UInt8) (l : List Key) (f : List Key → Option (Res α)) : Option (Res α) := if isT s l then f l.tail else some (.bad l)
def andThen {α β : Type} (r : Option (Res α)) (f : α → List Key → Option (Res β)) : Option (Res β) := match r with
  | none => none
  | some (.bad l) => some (.bad l)
  | some (.ok a l) => f a l
def levelOps : Nat → List (List UInt8 × Int)
  | 1 => [([124], 9)]
  | 2 => [([94], 10)]
  | 3 => [([38], 8)]
  | 4 => [([61, 61], 14), ([33, 61], 15)]
  | 5 => [([60], 16), ([60, 61], 17), ([62], 20), ([62, 61], 21)]
  | 6 => [([60, 60], 11), ([62, 62], 12)]
  | 7 => [([43], 1), ([45], 2)]
  | 8 => [([42], 3), ([47], 4), ([37], 5)]
  | _ => []
def typeOf (s : List UInt8) : Int := if s = [117, 56] then 1 else if s = [117, 49, 54] then 2 else if s = [117, 51, 50] then 3 else if s = [105, 51, 50] then 4 else 0
def typeAt : List Key → Int
  | [] => 0
  | k :: _ => if k.1 == 2 then typeOf k.2.1 else 0
def unOp (l : List Key) : Int := if isT [45] l then 1 else if isT [126] l then 2 else if isT [33] l then 3 else 0
def kindAt : List Key → Int
  | [] => 0
  | k :: _ => k.1
def textAt : List Key → List UInt8
  | [] => []
  | k :: _ => k.2.1
def numAt : List Key → Int
  | [] => 0
  | k :: _ => k.2.2
def eBin (op : Int) (a b : SE) : SE := ⟨6, op, 0, 0, ⟨#[]⟩, [a, b]⟩
def eUn (op : Int) (a : SE) : SE := ⟨5, op, 0, 0, ⟨#[]⟩, [a]⟩
def eCast (ty : Int) (a : SE) : SE := ⟨7, 0, ty, 0, ⟨#[]⟩, [a]⟩
def eNum (n : Int) : SE := ⟨1, 0, 0, n, ⟨#[]⟩, []⟩
def eVar (s : List UInt8) : SE := ⟨2, 0, 0, 0, ⟨s.toArray⟩, []⟩
def eIndex (s : List UInt8) (a : SE) : SE := ⟨3, 0, 0, 0, ⟨s.toArray⟩, [a]⟩
def eCall (s : List UInt8) (l : List SE) : SE := ⟨4, 0, 0, 0, ⟨s.toArray⟩, l⟩
mutual
def expr : Nat → Nat → List Key → Option (Res SE)
  | 0, _, _ => none
  | k + 1, level, l => if 8 < level then unary k l else andThen (expr k (level + 1) l) fun e r => more k level e r
def more : Nat → Nat → SE → List Key → Option (Res SE)
  | 0, _, _, _ => none
  | k + 1, level, e, l => match (levelOps level).find? (fun o => isT o.1 l) with
    | none => some (.ok e l)
    | some o => andThen (expr k (level + 1) l.tail) fun e2 r => more k level (eBin o.2 e e2) r
def unary : Nat → List Key → Option (Res SE)
  | 0, _ => none
  | k + 1, l => if unOp l = 0 then primary k l else andThen (unary k l.tail) fun e r => some (.ok (eUn (unOp l) e) r)
def primary : Nat → List Key → Option (Res SE)
  | 0, _ => none
  | k + 1, l =>
    if typeAt l ≠ 0 then must [40] l.tail fun r => andThen (expr k 1 r) fun e r => must [41] r fun r => some (.ok (eCast (typeAt l) e) r)
    else if kindAt l = 3 then some (.ok (eNum (numAt l)) l.tail)
    else if kindAt l = 1 then
      if isT [91] l.tail then andThen (expr k 1 l.tail.tail) fun e r => must [93] r fun r => some (.ok (eIndex (textAt l) e) r)
      else if isT [40] l.tail then andThen (args k l.tail.tail) fun a r => some (.ok (eCall (textAt l) a) r)
      else some (.ok (eVar (textAt l)) l.tail)
    else must [40] l fun r => andThen (expr k 1 r) fun e r => must [41] r fun r => some (.ok e r)
def args : Nat → List Key → Option (Res (List SE))
  | 0, _ => none
  | k + 1, l => if isT [41] l then some (.ok [] l.tail) else andThen (expr k 1 l) fun e r => argsMore k [e] r
def argsMore : Nat → List SE → List Key → Option (Res (List SE))
  | 0, _, _ => none
  | k + 1, a, l => if isT [44] l then andThen (expr k 1 l.tail) fun e r => argsMore k (a ++ [e]) r else must [41] l fun r => some (.ok a r)
end
theorem isT_ne {s : List UInt8} {l : List Key} (h : isT s l = true) : l ≠ [] := by rintro rfl; cases h
theorem andThen_ok {α β : Type} {r : Option (Res α)} {f : α → List Key → Option (Res β)} {b : β} {m : List Key} (h : andThen r f = some (.ok b m)) : ∃ a l, r = some (.ok a l) ∧ f a l = some (.ok b m) := by
  cases r with
  | none => cases h
  | some r => cases r with
    | bad l => cases h
    | ok a l => exact ⟨a, l, rfl, h⟩
theorem must_ok {α : Type} {s : List UInt8} {l : List Key} {f : List Key → Option (Res α)} {b : α} {m : List Key} (h : must s l f = some (.ok b m)) : isT s l = true ∧ f l.tail = some (.ok b m) := by
  unfold must at h
  cases hs : isT s l
  · rw [hs] at h; cases h
  · rw [hs] at h; exact ⟨rfl, h⟩
end Go.Proofs.YtnjnadlgndjnbaaDoor.Fp
