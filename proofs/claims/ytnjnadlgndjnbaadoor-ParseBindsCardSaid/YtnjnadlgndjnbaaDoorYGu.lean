/- Trees compared: words of the walks, out of the texts of Ast. -/
import Derived.Test.YtnjnadlgndjnbaaDoorYGs
import Derived.IntWalk
set_option linter.unusedVariables false
set_option linter.unusedSimpArgs false
section
namespace Go.Proofs.YtnjnadlgndjnbaaDoor.A
open Go.RowKit Go.Shelf Go.Proofs.YtnjnadlgndjnbaaDoor.As Go.Proofs.YtnjnadlgndjnbaaDoorW.PrintWords Go.Proofs.YtnjnadlgndjnbaaDoorW.PrintLast Go.Proofs.YtnjnadlgndjnbaaDoorW.PrintMore
theorem heap_kept {w w' : World} {B : Nat} {o : Obj} (hb : Below w.heap.size w w') (h : w.heap[B]? = some o) : w'.heap[B]? = some o := (hb.block B (Array.getElem?_eq_some_iff.1 h).1).trans h
end Go.Proofs.YtnjnadlgndjnbaaDoor.A
namespace Go.Proofs.YtnjnadlgndjnbaaDoor.A
open Go.RowKit Go.Shelf Go.Proofs.YtnjnadlgndjnbaaDoor.As Go.Proofs.YtnjnadlgndjnbaaDoorW.PrintWords Go.Proofs.YtnjnadlgndjnbaaDoorW.PrintLast Go.Proofs.YtnjnadlgndjnbaaDoorW.PrintMore
end Go.Proofs.YtnjnadlgndjnbaaDoor.A
namespace Go.Proofs.YtnjnadlgndjnbaaDoor.A
open Go.RowKit Go.Shelf Go.Proofs.YtnjnadlgndjnbaaDoor.As Go.Proofs.YtnjnadlgndjnbaaDoorW.PrintWords Go.Proofs.YtnjnadlgndjnbaaDoorW.PrintLast Go.Proofs.YtnjnadlgndjnbaaDoorW.PrintMore
open Kd (Heap)
end Go.Proofs.YtnjnadlgndjnbaaDoor.A
end
section
namespace Go.Proofs.YtnjnadlgndjnbaaDoor.A
open Go.RowKit Go.Shelf Go.Proofs.YtnjnadlgndjnbaaDoor.As Go.Proofs.YtnjnadlgndjnbaaDoorW.PrintWords Go.Proofs.YtnjnadlgndjnbaaDoorW.PrintLast Go.Proofs.YtnjnadlgndjnbaaDoorW.PrintMore
theorem eqL_len {α : Type} (f : α → α → Bool) : ∀ (l m : List α), l.length ≠ m.length → eqL f l m = false
  | [], [], h => absurd rfl h
  | [], _ :: _, _ => rfl
  | _ :: _, [], _ => rfl
  | a :: l, b :: m, h => by rw [eqL, eqL_len f l m (fun e => h (by simp [e])), Bool.and_false]
theorem kept_cells {W : World} {b : Nat} {vs : Array Value} {t : TypeId} (h : W.heap[b]? = some (.cells vs t (0, 0))) : ∀ W', Below W.heap.size W W' → ∀ j u, vs[j]? = some u → W'.cell? ⟨b, j, none⟩ = some u := fun W' hb j u hj => by
  have h' := heap_kept hb h
  unfold World.cell?; rw [h']; exact hj
def RowsE (W : World) (x : SE) (A5 : Option Addr) (c5 : Nat) : Prop := kE.C W A5 x.f5.length x.f5 ∧ x.f5.length ≤ c5
theorem RowsE.below {W W' : World} {x : SE} {A5 : Option Addr} {c5 : Nat} (h : RowsE W x A5 c5) (hb : Below W.heap.size W W') : RowsE W' x A5 c5 := ⟨Kd.C_below h.1 hb, h.2⟩
def BkE (W : World) (b : Nat) (x : SE) (A5 : Option Addr) (c5 : Nat) : Prop := W.cell? ⟨b, 0, none⟩ = some (.int .i64 x.f0) ∧ W.cell? ⟨b, 1, none⟩ = some (.int .i64 x.f1) ∧ W.cell? ⟨b, 2, none⟩ = some (.int .i64 x.f2) ∧ W.cell? ⟨b, 3, none⟩ = some (.int .u32 x.f3) ∧ W.cell? ⟨b, 4, none⟩ = some (.string x.f4) ∧ W.cell? ⟨b, 5, none⟩ = some (.slice A5 x.f5.length c5)
theorem bkE_of {W : World} {b : Nat} {x : SE} {A5 : Option Addr} {c5 : Nat} (h : W.heap[b]? = some (.cells #[.int .i64 x.f0, .int .i64 x.f1, .int .i64 x.f2, .int .u32 x.f3, .string x.f4, .slice A5 x.f5.length c5] 26 (0, 0))) : ∀ W', Below W.heap.size W W' → BkE W' b x A5 c5 := fun W' hb => by
  have k := kept_cells h W' hb
  exact ⟨k 0 _ rfl, k 1 _ rfl, k 2 _ rfl, k 3 _ rfl, k 4 _ rfl, k 5 _ rfl⟩
end Go.Proofs.YtnjnadlgndjnbaaDoor.A
namespace Go.Proofs.YtnjnadlgndjnbaaDoor.A
open Go.RowKit Go.Shelf Go.Proofs.YtnjnadlgndjnbaaDoor.As Go.Proofs.YtnjnadlgndjnbaaDoorW.PrintWords Go.Proofs.YtnjnadlgndjnbaaDoorW.PrintLast Go.Proofs.YtnjnadlgndjnbaaDoorW.PrintMore
abbrev kG := k49
abbrev kT := k51
abbrev kQ := k104
end Go.Proofs.YtnjnadlgndjnbaaDoor.A
namespace Go.Proofs.YtnjnadlgndjnbaaDoor.A
open Go.RowKit Go.Shelf Go.Proofs.YtnjnadlgndjnbaaDoor.As Go.Proofs.YtnjnadlgndjnbaaDoorW.PrintWords Go.Proofs.YtnjnadlgndjnbaaDoorW.PrintLast Go.Proofs.YtnjnadlgndjnbaaDoorW.PrintMore
def RowsS (W : World) (x : SS) (A5 A6 A7 A8 A9 : Option Addr) (c5 c6 c7 c8 c9 : Nat) : Prop := Kd.string.C W A5 x.f5.length x.f5 ∧ kE.C W A6 x.f6.length x.f6 ∧ kE.C W A7 x.f7.length x.f7 ∧ kS.C W A8 x.f8.length x.f8 ∧ kS.C W A9 x.f9.length x.f9 ∧ x.f5.length ≤ c5 ∧ x.f6.length ≤ c6 ∧ x.f7.length ≤ c7 ∧ x.f8.length ≤ c8 ∧ x.f9.length ≤ c9
theorem RowsS.below {W W' : World} {x : SS} {A5 A6 A7 A8 A9 : Option Addr} {c5 c6 c7 c8 c9 : Nat} (h : RowsS W x A5 A6 A7 A8 A9 c5 c6 c7 c8 c9) (hb : Below W.heap.size W W') : RowsS W' x A5 A6 A7 A8 A9 c5 c6 c7 c8 c9 := ⟨Kd.C_below h.1 hb, Kd.C_below h.2.1 hb, Kd.C_below h.2.2.1 hb, Kd.C_below h.2.2.2.1 hb, Kd.C_below h.2.2.2.2.1 hb, h.2.2.2.2.2.1, h.2.2.2.2.2.2.1, h.2.2.2.2.2.2.2.1, h.2.2.2.2.2.2.2.2.1, h.2.2.2.2.2.2.2.2.2⟩
end Go.Proofs.YtnjnadlgndjnbaaDoor.A
namespace Go.Proofs.YtnjnadlgndjnbaaDoor.A
open Go.RowKit Go.Shelf Go.Proofs.YtnjnadlgndjnbaaDoor.As Go.Proofs.YtnjnadlgndjnbaaDoorW.PrintWords Go.Proofs.YtnjnadlgndjnbaaDoorW.PrintLast Go.Proofs.YtnjnadlgndjnbaaDoorW.PrintMore
def RowsG (W : World) (x : SG) (A3 : Option Addr) (c3 : Nat) : Prop := (Kd.int .u32).C W A3 x.f3.length x.f3 ∧ x.f3.length ≤ c3
theorem RowsG.below {W W' : World} {x : SG} {A3 : Option Addr} {c3 : Nat} (h : RowsG W x A3 c3) (hb : Below W.heap.size W W') : RowsG W' x A3 c3 := ⟨Kd.C_below h.1 hb, h.2⟩
def RowsT (W : World) (x : ST) : Prop := True
theorem RowsT.below {W W' : World} {x : ST} (h : RowsT W x) (hb : Below W.heap.size W W') : RowsT W' x := trivial
end Go.Proofs.YtnjnadlgndjnbaaDoor.A
namespace Go.Proofs.YtnjnadlgndjnbaaDoor.A
open Go.RowKit Go.Shelf Go.Proofs.YtnjnadlgndjnbaaDoor.As Go.Proofs.YtnjnadlgndjnbaaDoorW.PrintWords Go.Proofs.YtnjnadlgndjnbaaDoorW.PrintLast Go.Proofs.YtnjnadlgndjnbaaDoorW.PrintMore
def RowsD (W : World) (x : SD) (A2 A5 : Option Addr) (c2 c5 : Nat) : Prop := kQ.C W A2 x.f2.length x.f2 ∧ kS.C W A5 x.f5.length x.f5 ∧ x.f2.length ≤ c2 ∧ x.f5.length ≤ c5
theorem RowsD.below {W W' : World} {x : SD} {A2 A5 : Option Addr} {c2 c5 : Nat} (h : RowsD W x A2 A5 c2 c5) (hb : Below W.heap.size W W') : RowsD W' x A2 A5 c2 c5 := ⟨Kd.C_below h.1 hb, Kd.C_below h.2.1 hb, h.2.2.1, h.2.2.2⟩
def RowsP (W : World) (x : SP) (A1 A2 A3 : Option Addr) (c1 c2 c3 : Nat) : Prop := kG.C W A1 x.f1.length x.f1 ∧ kT.C W A2 x.f2.length x.f2 ∧ kD.C W A3 x.f3.length x.f3 ∧ x.f1.length ≤ c1 ∧ x.f2.length ≤ c2 ∧ x.f3.length ≤ c3
theorem RowsP.below {W W' : World} {x : SP} {A1 A2 A3 : Option Addr} {c1 c2 c3 : Nat} (h : RowsP W x A1 A2 A3 c1 c2 c3) (hb : Below W.heap.size W W') : RowsP W' x A1 A2 A3 c1 c2 c3 := ⟨Kd.C_below h.1 hb, Kd.C_below h.2.1 hb, Kd.C_below h.2.2.1 hb, h.2.2.2.1, h.2.2.2.2.1, h.2.2.2.2.2⟩
end Go.Proofs.YtnjnadlgndjnbaaDoor.A
end
section
namespace Go.Proofs.YtnjnadlgndjnbaaDoor.A
open Go.RowKit Go.Shelf Go.Proofs.YtnjnadlgndjnbaaDoor.As Go.Proofs.YtnjnadlgndjnbaaDoorW.PrintWords Go.Proofs.YtnjnadlgndjnbaaDoorW.PrintLast Go.Proofs.YtnjnadlgndjnbaaDoorW.PrintMore
end Go.Proofs.YtnjnadlgndjnbaaDoor.A
namespace Go.Proofs.YtnjnadlgndjnbaaDoor.A
open Go.RowKit Go.Shelf Go.Proofs.YtnjnadlgndjnbaaDoor.As Go.Proofs.YtnjnadlgndjnbaaDoorW.PrintWords Go.Proofs.YtnjnadlgndjnbaaDoorW.PrintLast Go.Proofs.YtnjnadlgndjnbaaDoorW.PrintMore
def okT (s : ByteArray) : Bool := decide (s.size ≤ 140737488351232)
def fitP (p : SP) : Bool := decide ((bodies p.f3).length * 16 ≤ 140737488355328) && (decide (sizes (nodes p.f3) < 4611686018427387904) && ((nodes p.f3).all fitB && (p.f1.all (fun g => okT g.f0) && (p.f2.all (fun g => okT g.f0) && p.f3.all (fun d => okT d.f1 && d.f2.all (fun q => okT q.f0))))))
end Go.Proofs.YtnjnadlgndjnbaaDoor.A
namespace Go.Proofs.YtnjnadlgndjnbaaDoor.A
open Go.RowKit Go.Shelf Go.Proofs.YtnjnadlgndjnbaaDoor.As Go.Proofs.YtnjnadlgndjnbaaDoorW.PrintWords Go.Proofs.YtnjnadlgndjnbaaDoorW.PrintLast Go.Proofs.YtnjnadlgndjnbaaDoorW.PrintMore
def ast_Check.f (a0_0 : Int) (l0_1 : List SG) (l0_2 : List ST) (l0_3 : List SD) : Option Int := if fitP ⟨a0_0, l0_1, l0_2, l0_3⟩ = true then some (checkP ⟨a0_0, l0_1, l0_2, l0_3⟩) else none
def ast_Size.f (a0_0 : Int) (l0_1 : List SG) (l0_2 : List ST) (l0_3 : List SD) : Option Int := if fitP ⟨a0_0, l0_1, l0_2, l0_3⟩ = true then some ((sizes (nodes l0_3) : Int)) else none
def ast_Deep.f (a0_0 : Int) (l0_1 : List SG) (l0_2 : List ST) (l0_3 : List SD) : Option Int := if fitP ⟨a0_0, l0_1, l0_2, l0_3⟩ = true then some ((deeps (nodes l0_3) : Int)) else none
def ast_Same.f (a0_0 : Int) (l0_1 : List SG) (l0_2 : List ST) (l0_3 : List SD) (a1_0 : Int) (l1_1 : List SG) (l1_2 : List ST) (l1_3 : List SD) : Option Bool := if True then some (sameP ⟨a0_0, l0_1, l0_2, l0_3⟩ ⟨a1_0, l1_1, l1_2, l1_3⟩) else none
def ast_SameExpr.f (a0_0 : Int) (a0_1 : Int) (a0_2 : Int) (a0_3 : Int) (a0_4 : ByteArray) (l0_5 : List SE) (a1_0 : Int) (a1_1 : Int) (a1_2 : Int) (a1_3 : Int) (a1_4 : ByteArray) (l1_5 : List SE) : Option Bool := if True then some (sameE ⟨a0_0, a0_1, a0_2, a0_3, a0_4, l0_5⟩ ⟨a1_0, a1_1, a1_2, a1_3, a1_4, l1_5⟩) else none
def ast_SameStmt.f (a0_0 : Int) (a0_1 : Int) (a0_2 : Int) (a0_3 : Int) (a0_4 : ByteArray) (l0_5 : List ByteArray) (l0_6 : List SE) (l0_7 : List SE) (l0_8 : List SS) (l0_9 : List SS) (a1_0 : Int) (a1_1 : Int) (a1_2 : Int) (a1_3 : Int) (a1_4 : ByteArray) (l1_5 : List ByteArray) (l1_6 : List SE) (l1_7 : List SE) (l1_8 : List SS) (l1_9 : List SS) : Option Bool := if True then some (sameS ⟨a0_0, a0_1, a0_2, a0_3, a0_4, l0_5, l0_6, l0_7, l0_8, l0_9⟩ ⟨a1_0, a1_1, a1_2, a1_3, a1_4, l1_5, l1_6, l1_7, l1_8, l1_9⟩) else none
end Go.Proofs.YtnjnadlgndjnbaaDoor.A
end
section
namespace Go.Proofs.YtnjnadlgndjnbaaDoor.A
open Go.RowKit Go.Shelf Go.Proofs.YtnjnadlgndjnbaaDoor.As Go.Proofs.YtnjnadlgndjnbaaDoorW.PrintWords Go.Proofs.YtnjnadlgndjnbaaDoorW.PrintLast Go.Proofs.YtnjnadlgndjnbaaDoorW.PrintMore
open Go (DataW MemPlace)
section
variable {H : Type} {enc : TypeId × Value → H} {W : World} {sp : Nat → Bool} {held : Bool}
instance : Inhabited SQ := ⟨⟨ByteArray.empty, 0⟩⟩
instance : Inhabited SG := ⟨⟨ByteArray.empty, 0, 0, [], 0⟩⟩
instance : Inhabited ST := ⟨⟨ByteArray.empty, false, false, 0⟩⟩
instance : Inhabited SD := ⟨⟨0, ByteArray.empty, [], 0, 0, [], 0⟩⟩
end
end Go.Proofs.YtnjnadlgndjnbaaDoor.A
namespace Go.Proofs.YtnjnadlgndjnbaaDoor.A
open Go.RowKit Go.Shelf Go.Proofs.YtnjnadlgndjnbaaDoor.As Go.Proofs.YtnjnadlgndjnbaaDoorW.PrintWords Go.Proofs.YtnjnadlgndjnbaaDoorW.PrintLast Go.Proofs.YtnjnadlgndjnbaaDoorW.PrintMore
end Go.Proofs.YtnjnadlgndjnbaaDoor.A
namespace Go.Proofs.YtnjnadlgndjnbaaDoor.A
open Go.RowKit Go.Shelf Go.Proofs.YtnjnadlgndjnbaaDoor.As Go.Proofs.YtnjnadlgndjnbaaDoorW.PrintWords Go.Proofs.YtnjnadlgndjnbaaDoorW.PrintLast Go.Proofs.YtnjnadlgndjnbaaDoorW.PrintMore
end Go.Proofs.YtnjnadlgndjnbaaDoor.A
end
section
namespace Go.Proofs.YtnjnadlgndjnbaaDoor.A
open Go.RowKit Go.Shelf Go.Proofs.YtnjnadlgndjnbaaDoor.As Go.Proofs.YtnjnadlgndjnbaaDoorW.PrintWords Go.Proofs.YtnjnadlgndjnbaaDoorW.PrintLast Go.Proofs.YtnjnadlgndjnbaaDoorW.PrintMore
def fl (n m : Nat) : Array Bool := ((List.range n).map fun i => Nat.testBit m i).toArray
end Go.Proofs.YtnjnadlgndjnbaaDoor.A
end
