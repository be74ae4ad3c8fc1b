/- Trees compared: plain definitions and laws, out of the texts of Ast. -/
import Derived.Test.YtnjnadlgndjnbaaDoorYAq
section
set_option linter.unusedVariables false
set_option linter.unusedSimpArgs false
section
namespace Go.Proofs.YtnjnadlgndjnbaaDoor.A
open Go.RowKit Go.Shelf Go.Proofs.YtnjnadlgndjnbaaDoor.As Go.Proofs.YtnjnadlgndjnbaaDoorW.PrintWords Go.Proofs.YtnjnadlgndjnbaaDoorW.PrintLast Go.Proofs.YtnjnadlgndjnbaaDoorW.PrintMore
mutual
def sameE : SE → SE → Bool
  | ⟨a0, a1, a2, a3, a4, l⟩, ⟨b0, b1, b2, b3, b4, m⟩ => sameB ⟨a0, a1, a2, a3, a4, l⟩ ⟨b0, b1, b2, b3, b4, m⟩ && sameEs l m
def sameEs : List SE → List SE → Bool
  | [], [] => true
  | a :: l, b :: m => sameE a b && sameEs l m
  | _, _ => false
end
end Go.Proofs.YtnjnadlgndjnbaaDoor.A
namespace Go.Proofs.YtnjnadlgndjnbaaDoor.A
open Go.RowKit Go.Shelf Go.Proofs.YtnjnadlgndjnbaaDoor.As Go.Proofs.YtnjnadlgndjnbaaDoorW.PrintWords Go.Proofs.YtnjnadlgndjnbaaDoorW.PrintLast Go.Proofs.YtnjnadlgndjnbaaDoorW.PrintMore
abbrev SG := S49
abbrev ST := S51
abbrev SP := S44
abbrev SQ := S104
end Go.Proofs.YtnjnadlgndjnbaaDoor.A
namespace Go.Proofs.YtnjnadlgndjnbaaDoor.A
open Go.RowKit Go.Shelf Go.Proofs.YtnjnadlgndjnbaaDoor.As Go.Proofs.YtnjnadlgndjnbaaDoorW.PrintWords Go.Proofs.YtnjnadlgndjnbaaDoorW.PrintLast Go.Proofs.YtnjnadlgndjnbaaDoorW.PrintMore
end Go.Proofs.YtnjnadlgndjnbaaDoor.A
namespace Go.Proofs.YtnjnadlgndjnbaaDoor.A
open Go.RowKit Go.Shelf Go.Proofs.YtnjnadlgndjnbaaDoor.As Go.Proofs.YtnjnadlgndjnbaaDoorW.PrintWords Go.Proofs.YtnjnadlgndjnbaaDoorW.PrintLast Go.Proofs.YtnjnadlgndjnbaaDoorW.PrintMore
end Go.Proofs.YtnjnadlgndjnbaaDoor.A
namespace Go.Proofs.YtnjnadlgndjnbaaDoor.A
open Go.RowKit Go.Shelf Go.Proofs.YtnjnadlgndjnbaaDoor.As Go.Proofs.YtnjnadlgndjnbaaDoorW.PrintWords Go.Proofs.YtnjnadlgndjnbaaDoorW.PrintLast Go.Proofs.YtnjnadlgndjnbaaDoorW.PrintMore
end Go.Proofs.YtnjnadlgndjnbaaDoor.A
end
section
namespace Go.Proofs.YtnjnadlgndjnbaaDoor.A
open Go.RowKit Go.Shelf Go.Proofs.YtnjnadlgndjnbaaDoor.As Go.Proofs.YtnjnadlgndjnbaaDoorW.PrintWords Go.Proofs.YtnjnadlgndjnbaaDoorW.PrintLast Go.Proofs.YtnjnadlgndjnbaaDoorW.PrintMore
def badQ (q : SQ) : Bool := !nameB q.f0 || (widthI q.f1 == 0)
def declV (a0 : Int) (s : ByteArray) (n : Nat) (a3 a4 a6 : Int) (bad : Bool) : Bool :=
  if decide (a6 < 0) then false else
  if a0 == 1 then (if !nameB s then false else if decide ((n : Int) > 8) then false else if !(a3 == 0) then false else if !(a4 == 0) then false else !bad) else
  if a0 == 2 then s.toList.isEmpty && (((n : Int) == 0) && ((a3 == 0) && (a4 == 0))) else
  if a0 == 3 then s.toList.isEmpty && (((n : Int) == 0) && (decide (a3 ≥ 0) && (decide (a3 ≤ 31) && (decide (a4 ≥ 1) && decide (a4 ≤ 15))))) else false
def declB (d : SD) : Bool := declV d.f0 d.f1 d.f2.length d.f3 d.f4 d.f6 (d.f2.any badQ)
end Go.Proofs.YtnjnadlgndjnbaaDoor.A
namespace Go.Proofs.YtnjnadlgndjnbaaDoor.A
open Go.RowKit Go.Shelf Go.Proofs.YtnjnadlgndjnbaaDoor.As Go.Proofs.YtnjnadlgndjnbaaDoorW.PrintWords Go.Proofs.YtnjnadlgndjnbaaDoorW.PrintLast Go.Proofs.YtnjnadlgndjnbaaDoorW.PrintMore
def globB (g : SG) : Bool := nameB g.f0 && (decide (widthI g.f1 > 0) && (decide (g.f2 ≥ 0) && (decide (g.f2 ≤ 4096) && (decide ((g.f3.length : Int) ≤ max 1 g.f2) && decide (g.f4 ≥ 0)))))
def gateB (t : ST) : Bool := if !nameB t.f0 then false else if !t.f1 && !t.f2 then false else decide (t.f3 ≥ 0)
def checkV (n s : Int) (g t d : Bool) : Int := if n == 3 then 3 else if n != 0 then 2 else if decide (s < 1) then 2 else if decide (s > 65536) then 2 else if !g then 2 else if !t then 2 else if !d then 2 else 0
def checkP (p : SP) : Int := checkV (checkN (nodes p.f3)) p.f0 (p.f1.all globB) (p.f2.all gateB) (p.f3.all declB)
end Go.Proofs.YtnjnadlgndjnbaaDoor.A
namespace Go.Proofs.YtnjnadlgndjnbaaDoor.A
open Go.RowKit Go.Shelf Go.Proofs.YtnjnadlgndjnbaaDoor.As Go.Proofs.YtnjnadlgndjnbaaDoorW.PrintWords Go.Proofs.YtnjnadlgndjnbaaDoorW.PrintLast Go.Proofs.YtnjnadlgndjnbaaDoorW.PrintMore
end Go.Proofs.YtnjnadlgndjnbaaDoor.A
end
section
namespace Go.Proofs.YtnjnadlgndjnbaaDoor.A
open Go.RowKit Go.Shelf Go.Proofs.YtnjnadlgndjnbaaDoor.As Go.Proofs.YtnjnadlgndjnbaaDoorW.PrintWords Go.Proofs.YtnjnadlgndjnbaaDoorW.PrintLast Go.Proofs.YtnjnadlgndjnbaaDoorW.PrintMore
open Go (DataW MemPlace)
section
variable {H : Type} {enc : TypeId × Value → H} {W : World} {sp : Nat → Bool} {held : Bool}
instance : Inhabited SQ := ⟨⟨ByteArray.empty, 0⟩⟩
instance : Inhabited SG := ⟨⟨ByteArray.empty, 0, 0, [], 0⟩⟩
instance : Inhabited ST := ⟨⟨ByteArray.empty, false, false, 0⟩⟩
instance : Inhabited SD := ⟨⟨0, ByteArray.empty, [], 0, 0, [], 0⟩⟩
end
end Go.Proofs.YtnjnadlgndjnbaaDoor.A
namespace Go.Proofs.YtnjnadlgndjnbaaDoor.A
open Go.RowKit Go.Shelf Go.Proofs.YtnjnadlgndjnbaaDoor.As Go.Proofs.YtnjnadlgndjnbaaDoorW.PrintWords Go.Proofs.YtnjnadlgndjnbaaDoorW.PrintLast Go.Proofs.YtnjnadlgndjnbaaDoorW.PrintMore
end Go.Proofs.YtnjnadlgndjnbaaDoor.A
namespace Go.Proofs.YtnjnadlgndjnbaaDoor.A
open Go.RowKit Go.Shelf Go.Proofs.YtnjnadlgndjnbaaDoor.As Go.Proofs.YtnjnadlgndjnbaaDoorW.PrintWords Go.Proofs.YtnjnadlgndjnbaaDoorW.PrintLast Go.Proofs.YtnjnadlgndjnbaaDoorW.PrintMore
end Go.Proofs.YtnjnadlgndjnbaaDoor.A
end
section
namespace Go.Proofs.YtnjnadlgndjnbaaDoor.A
open Go.RowKit Go.Shelf Go.Proofs.YtnjnadlgndjnbaaDoor.As Go.Proofs.YtnjnadlgndjnbaaDoorW.PrintWords Go.Proofs.YtnjnadlgndjnbaaDoorW.PrintLast Go.Proofs.YtnjnadlgndjnbaaDoorW.PrintMore
end Go.Proofs.YtnjnadlgndjnbaaDoor.A
end
end

section
set_option linter.unusedVariables false
set_option linter.unusedSimpArgs false
section
namespace Go.Proofs.YtnjnadlgndjnbaaDoor.A
open Go.RowKit Go.Shelf Go.Proofs.YtnjnadlgndjnbaaDoor.As Go.Proofs.YtnjnadlgndjnbaaDoorW.PrintWords Go.Proofs.YtnjnadlgndjnbaaDoorW.PrintLast Go.Proofs.YtnjnadlgndjnbaaDoorW.PrintMore
theorem sameE_eq' (x y : SE) : sameE x y = (sameB x y && sameEs x.f5 y.f5) := by cases x; cases y; rfl
def eqL {α : Type} (f : α → α → Bool) : List α → List α → Bool
  | [], [] => true
  | a :: l, b :: m => f a b && eqL f l m
  | _, _ => false
theorem sameEs_eqL : ∀ l m : List SE, sameEs l m = eqL sameE l m
  | [], [] => rfl
  | [], _ :: _ => rfl
  | _ :: _, [] => rfl
  | a :: l, b :: m => by rw [sameEs, eqL, sameEs_eqL l m]
theorem sameE_eq (x y : SE) : sameE x y = (sameB x y && eqL sameE x.f5 y.f5) := by rw [sameE_eq', sameEs_eqL]
end Go.Proofs.YtnjnadlgndjnbaaDoor.A
namespace Go.Proofs.YtnjnadlgndjnbaaDoor.A
open Go.RowKit Go.Shelf Go.Proofs.YtnjnadlgndjnbaaDoor.As Go.Proofs.YtnjnadlgndjnbaaDoorW.PrintWords Go.Proofs.YtnjnadlgndjnbaaDoorW.PrintLast Go.Proofs.YtnjnadlgndjnbaaDoorW.PrintMore
def eqT : List ByteArray → List ByteArray → Bool := eqL (fun a b => a.toList == b.toList)
def eqN : List Int → List Int → Bool := eqL (fun a b => a == b)
def eqQ : List SQ → List SQ → Bool := eqL (fun a b => a.f0.toList == b.f0.toList && a.f1 == b.f1)
end Go.Proofs.YtnjnadlgndjnbaaDoor.A
namespace Go.Proofs.YtnjnadlgndjnbaaDoor.A
open Go.RowKit Go.Shelf Go.Proofs.YtnjnadlgndjnbaaDoor.As Go.Proofs.YtnjnadlgndjnbaaDoorW.PrintWords Go.Proofs.YtnjnadlgndjnbaaDoorW.PrintLast Go.Proofs.YtnjnadlgndjnbaaDoorW.PrintMore
mutual
def sameS : SS → SS → Bool
  | ⟨a0, _, a2, a3, a4, n, i, e, t, f⟩, ⟨b0, _, b2, b3, b4, n', i', e', t', f'⟩ => a0 == b0 && (a2 == b2 && (a3 == b3 && (a4.toList == b4.toList && (eqT n n' && (eqL sameE i i' && (eqL sameE e e' && (sameSs t t' && sameSs f f')))))))
def sameSs : List SS → List SS → Bool
  | [], [] => true
  | a :: l, b :: m => sameS a b && sameSs l m
  | _, _ => false
end
end Go.Proofs.YtnjnadlgndjnbaaDoor.A
namespace Go.Proofs.YtnjnadlgndjnbaaDoor.A
open Go.RowKit Go.Shelf Go.Proofs.YtnjnadlgndjnbaaDoor.As Go.Proofs.YtnjnadlgndjnbaaDoorW.PrintWords Go.Proofs.YtnjnadlgndjnbaaDoorW.PrintLast Go.Proofs.YtnjnadlgndjnbaaDoorW.PrintMore
def sameG (x y : SG) : Bool := x.f0.toList == y.f0.toList && (x.f1 == y.f1 && (x.f2 == y.f2 && eqN x.f3 y.f3))
def sameT (x y : ST) : Bool := x.f0.toList == y.f0.toList && (x.f1 == y.f1 && x.f2 == y.f2)
def sameD (x y : SD) : Bool := x.f0 == y.f0 && (x.f1.toList == y.f1.toList && (eqQ x.f2 y.f2 && (x.f3 == y.f3 && (x.f4 == y.f4 && eqL sameS x.f5 y.f5))))
def sameP (x y : SP) : Bool := x.f0 == y.f0 && (eqL sameG x.f1 y.f1 && (eqL sameT x.f2 y.f2 && eqL sameD x.f3 y.f3))
end Go.Proofs.YtnjnadlgndjnbaaDoor.A
namespace Go.Proofs.YtnjnadlgndjnbaaDoor.A
open Go.RowKit Go.Shelf Go.Proofs.YtnjnadlgndjnbaaDoor.As Go.Proofs.YtnjnadlgndjnbaaDoorW.PrintWords Go.Proofs.YtnjnadlgndjnbaaDoorW.PrintLast Go.Proofs.YtnjnadlgndjnbaaDoorW.PrintMore
end Go.Proofs.YtnjnadlgndjnbaaDoor.A
end
section
namespace Go.Proofs.YtnjnadlgndjnbaaDoor.A
open Go.RowKit Go.Shelf Go.Proofs.YtnjnadlgndjnbaaDoor.As Go.Proofs.YtnjnadlgndjnbaaDoorW.PrintWords Go.Proofs.YtnjnadlgndjnbaaDoorW.PrintLast Go.Proofs.YtnjnadlgndjnbaaDoorW.PrintMore
open Go (DataW MemPlace)
section
variable {H : Type} {enc : TypeId × Value → H} {W : World} {sp : Nat → Bool} {held : Bool}
instance : Inhabited SQ := ⟨⟨ByteArray.empty, 0⟩⟩
instance : Inhabited SG := ⟨⟨ByteArray.empty, 0, 0, [], 0⟩⟩
instance : Inhabited ST := ⟨⟨ByteArray.empty, false, false, 0⟩⟩
instance : Inhabited SD := ⟨⟨0, ByteArray.empty, [], 0, 0, [], 0⟩⟩
end
end Go.Proofs.YtnjnadlgndjnbaaDoor.A
namespace Go.Proofs.YtnjnadlgndjnbaaDoor.A
open Go.RowKit Go.Shelf Go.Proofs.YtnjnadlgndjnbaaDoor.As Go.Proofs.YtnjnadlgndjnbaaDoorW.PrintWords Go.Proofs.YtnjnadlgndjnbaaDoorW.PrintLast Go.Proofs.YtnjnadlgndjnbaaDoorW.PrintMore
end Go.Proofs.YtnjnadlgndjnbaaDoor.A
namespace Go.Proofs.YtnjnadlgndjnbaaDoor.A
open Go.RowKit Go.Shelf Go.Proofs.YtnjnadlgndjnbaaDoor.As Go.Proofs.YtnjnadlgndjnbaaDoorW.PrintWords Go.Proofs.YtnjnadlgndjnbaaDoorW.PrintLast Go.Proofs.YtnjnadlgndjnbaaDoorW.PrintMore
end Go.Proofs.YtnjnadlgndjnbaaDoor.A
end
section
namespace Go.Proofs.YtnjnadlgndjnbaaDoor.A
open Go.RowKit Go.Shelf Go.Proofs.YtnjnadlgndjnbaaDoor.As Go.Proofs.YtnjnadlgndjnbaaDoorW.PrintWords Go.Proofs.YtnjnadlgndjnbaaDoorW.PrintLast Go.Proofs.YtnjnadlgndjnbaaDoorW.PrintMore
end Go.Proofs.YtnjnadlgndjnbaaDoor.A
end
end
