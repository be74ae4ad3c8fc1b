/- Rows for programs: what an argument that is a program reads as. -/
import Derived.Test.YtgkhpecllhiidaaDoorCa
import Derived.Test.YtgkhpecllhiidaaDoorAo
import Derived.Test.YtgkhpecllhiidaaDoorBn
import Derived.Test.YtgkhpecllhiidaaDoorCg
set_option linter.unusedVariables false
set_option linter.unusedSimpArgs false

/-! ## Rows for programs: what an argument that is a program reads as. -/
namespace Go.Proofs.YtgkhpecllhiidaaDoor.A
open Go.RowKit Go.Shelf Go.Proofs.YtgkhpecllhiidaaDoor.As Go.Proofs.YtgkhpecllhiidaaDoorW.PrintWords Go.Proofs.YtgkhpecllhiidaaDoorW.PrintLast Go.Proofs.YtgkhpecllhiidaaDoorW.PrintMore
open Go (DataW MemPlace)
def nameOk (s : ByteArray) : Prop := s.size ≤ 140737488351232
/-- What memory allows of a declaration, and of a program. -/
def wellD (d : SD) : Prop := nameOk d.f1 ∧ (∀ q ∈ d.f2, nameOk q.f0) ∧ d.f2.length ≤ 140737488351232 ∧ d.f5.length ≤ 140737488351232 ∧ ∀ s ∈ d.f5, AllN szN (.st s) ∧ AllN lenN (.st s)
def wellP (p : SP) : Prop := (∀ g ∈ p.f1, nameOk g.f0 ∧ g.f3.length ≤ 140737488351232) ∧ (∀ g ∈ p.f2, nameOk g.f0) ∧ (∀ d ∈ p.f3, wellD d) ∧ p.f1.length ≤ 140737488351232 ∧ p.f2.length ≤ 140737488351232 ∧ p.f3.length ≤ 140737488351232
section
variable {H : Type} {enc : TypeId × Value → H} {W : World} {sp : Nat → Bool} {held : Bool}
theorem cBo : Tryd.prog.cellsOf 4 = 1 := by kernel_rfl
theorem cLU : Tryd.prog.cellsOf 97 = 1 := by kernel_rfl
theorem cLQ : Tryd.prog.cellsOf 47 = 1 := by kernel_rfl
theorem cLG : Tryd.prog.cellsOf 42 = 1 := by kernel_rfl
theorem cLT' : Tryd.prog.cellsOf 43 = 1 := by kernel_rfl
theorem cLD : Tryd.prog.cellsOf 44 = 1 := by kernel_rfl
theorem cG : Tryd.prog.cellsOf 99 = 5 := by kernel_rfl
theorem cGt : Tryd.prog.cellsOf 105 = 4 := by kernel_rfl
theorem cQ : Tryd.prog.cellsOf 110 = 2 := by kernel_rfl
theorem cD : Tryd.prog.cellsOf 49 = 7 := by kernel_rfl
theorem cP : Tryd.prog.cellsOf 46 = 4 := by kernel_rfl
theorem bU : Tryd.prog.bytesOf 22 = 4 := by kernel_rfl
theorem bS : Tryd.prog.bytesOf 38 = 168 := by kernel_rfl
theorem bQ : Tryd.prog.bytesOf 110 = 24 := by kernel_rfl
theorem bG : Tryd.prog.bytesOf 99 = 64 := by kernel_rfl
theorem bGt : Tryd.prog.bytesOf 105 = 32 := by kernel_rfl
theorem bD : Tryd.prog.bytesOf 49 = 96 := by kernel_rfl
theorem bool_open {t : TypeId} (ht : Tryd.prog.underlying t = some .bool) {fuel : Nat} {cs : List Value} {x : DataW H × List MemPlace} (h : DataW.trod enc Tryd.prog W 0 sp held fuel t cs = some x) : ∃ b, cs = [.bool b] := by
  obtain ⟨n, h1, _⟩ := DataW.trod_bool ht h
  exact ⟨n, h1⟩
theorem lenR {n k : Nat} (h : n * k ≤ reachBytes) (hk : 1 ≤ k) : n ≤ 140737488351232 := by
  have : reachBytes = 140737488351232 := rfl
  have := Nat.le_mul_of_pos_right n hk
  omega
instance : Inhabited SQ := ⟨⟨ByteArray.empty, 0⟩⟩
instance : Inhabited SG := ⟨⟨ByteArray.empty, 0, 0, [], 0⟩⟩
instance : Inhabited ST := ⟨⟨ByteArray.empty, false, false, 0⟩⟩
instance : Inhabited SD := ⟨⟨0, ByteArray.empty, [], 0, 0, [], 0⟩⟩
set_option maxRecDepth 100000 in
theorem qp_open (fuel : Nat) (cs : List Value) (x : DataW H × List MemPlace) (h : DataW.trod enc Tryd.prog W 0 sp held fuel 110 cs = some x) (hw : ∀ n ∈ x.1.weights Tryd.prog 110, n ≤ reachBytes) :
    ∃ (z : SQ), cs = [.string z.f0, .int .i64 z.f1] ∧ nameOk z.f0 := by
  obtain ⟨xs, m, rfl, rfl, hlen, hxl, hf⟩ := DataW.trod_struct Tryd.underlying110 h
  rw [cQ] at hlen
  match cs, hlen with
  | [c0, c1], _ =>
    match xs, hxl with
    | [x0, x1], _ =>
      have f0 : DataW.trod enc Tryd.prog W 0 sp held m 9 (List.take (Tryd.prog.cellsOf 9) (List.drop 0 [c0, c1])) = some x0 := hf 0 _ rfl
      rw [cT] at f0
      have w0 := weights_field Tryd.underlying110 hw (i := 0) (d := x0.1) rfl rfl
      have f1 : DataW.trod enc Tryd.prog W 0 sp held m 3 (List.take (Tryd.prog.cellsOf 3) (List.drop 1 [c0, c1])) = some x1 := hf 1 _ rfl
      rw [cI] at f1
      obtain ⟨a0, e0, s0⟩ := text_open Tryd.underlying9 f0 w0
      obtain ⟨a1, e1⟩ := int_open Tryd.underlying3 f1
      obtain rfl := (List.cons.inj e0).1
      obtain rfl := (List.cons.inj e1).1
      exact ⟨⟨a0, a1⟩, rfl, s0⟩
set_option maxRecDepth 100000 in
theorem gp_open (fuel : Nat) (cs : List Value) (x : DataW H × List MemPlace) (h : DataW.trod enc Tryd.prog W 0 sp held fuel 99 cs = some x) (hw : ∀ n ∈ x.1.weights Tryd.prog 99, n ≤ reachBytes) :
    ∃ (z : SG) (A3 : Option Addr) (c3 : Nat), cs = [.string z.f0, .int .i64 z.f1, .int .i64 z.f2, .slice A3 z.f3.length c3, .int .i64 z.f4] ∧ (Kd.int .u32).C W A3 z.f3.length z.f3 ∧ z.f3.length ≤ c3 ∧ (nameOk z.f0 ∧ z.f3.length ≤ 140737488351232) := by
  obtain ⟨xs, m, rfl, rfl, hlen, hxl, hf⟩ := DataW.trod_struct Tryd.underlying99 h
  rw [cG] at hlen
  match cs, hlen with
  | [c0, c1, c2, c3, c4], _ =>
    match xs, hxl with
    | [x0, x1, x2, x3, x4], _ =>
      have f0 : DataW.trod enc Tryd.prog W 0 sp held m 9 (List.take (Tryd.prog.cellsOf 9) (List.drop 0 [c0, c1, c2, c3, c4])) = some x0 := hf 0 _ rfl
      rw [cT] at f0
      have w0 := weights_field Tryd.underlying99 hw (i := 0) (d := x0.1) rfl rfl
      have f1 : DataW.trod enc Tryd.prog W 0 sp held m 3 (List.take (Tryd.prog.cellsOf 3) (List.drop 1 [c0, c1, c2, c3, c4])) = some x1 := hf 1 _ rfl
      rw [cI] at f1
      have f2 : DataW.trod enc Tryd.prog W 0 sp held m 3 (List.take (Tryd.prog.cellsOf 3) (List.drop 2 [c0, c1, c2, c3, c4])) = some x2 := hf 2 _ rfl
      rw [cI] at f2
      have f3 : DataW.trod enc Tryd.prog W 0 sp held m 97 (List.take (Tryd.prog.cellsOf 97) (List.drop 3 [c0, c1, c2, c3, c4])) = some x3 := hf 3 _ rfl
      rw [cLU] at f3
      have w3 := weights_field Tryd.underlying99 hw (i := 3) (d := x3.1) rfl rfl
      have f4 : DataW.trod enc Tryd.prog W 0 sp held m 3 (List.take (Tryd.prog.cellsOf 3) (List.drop 4 [c0, c1, c2, c3, c4])) = some x4 := hf 4 _ rfl
      rw [cI] at f4
      obtain ⟨a0, e0, s0⟩ := text_open Tryd.underlying9 f0 w0
      obtain ⟨a1, e1⟩ := int_open Tryd.underlying3 f1
      obtain ⟨a2, e2⟩ := int_open Tryd.underlying3 f2
      obtain ⟨A3, d3, l3, e3, hl3, hC3, hQ3, hw3⟩ := row_open (Kd.int .u32) Tryd.underlying97 cU (fun _ => True) f3 w3 (fun n cs' y hn hy hv => by obtain ⟨a, rfl⟩ := int_open Tryd.underlying22 hy; exact ⟨a, rfl, trivial⟩)
      obtain ⟨a4, e4⟩ := int_open Tryd.underlying3 f4
      obtain rfl := (List.cons.inj e0).1
      obtain rfl := (List.cons.inj e1).1
      obtain rfl := (List.cons.inj e2).1
      obtain rfl := (List.cons.inj e3).1
      obtain rfl := (List.cons.inj e4).1
      exact ⟨⟨a0, a1, a2, l3, a4⟩, A3, d3, rfl, hC3, hl3, ⟨s0, lenR hw3 (by rw [bU]; decide)⟩⟩
set_option maxRecDepth 100000 in
theorem tp_open (fuel : Nat) (cs : List Value) (x : DataW H × List MemPlace) (h : DataW.trod enc Tryd.prog W 0 sp held fuel 105 cs = some x) (hw : ∀ n ∈ x.1.weights Tryd.prog 105, n ≤ reachBytes) :
    ∃ (z : ST), cs = [.string z.f0, .bool z.f1, .bool z.f2, .int .i64 z.f3] ∧ nameOk z.f0 := by
  obtain ⟨xs, m, rfl, rfl, hlen, hxl, hf⟩ := DataW.trod_struct Tryd.underlying105 h
  rw [cGt] at hlen
  match cs, hlen with
  | [c0, c1, c2, c3], _ =>
    match xs, hxl with
    | [x0, x1, x2, x3], _ =>
      have f0 : DataW.trod enc Tryd.prog W 0 sp held m 9 (List.take (Tryd.prog.cellsOf 9) (List.drop 0 [c0, c1, c2, c3])) = some x0 := hf 0 _ rfl
      rw [cT] at f0
      have w0 := weights_field Tryd.underlying105 hw (i := 0) (d := x0.1) rfl rfl
      have f1 : DataW.trod enc Tryd.prog W 0 sp held m 4 (List.take (Tryd.prog.cellsOf 4) (List.drop 1 [c0, c1, c2, c3])) = some x1 := hf 1 _ rfl
      rw [cBo] at f1
      have f2 : DataW.trod enc Tryd.prog W 0 sp held m 4 (List.take (Tryd.prog.cellsOf 4) (List.drop 2 [c0, c1, c2, c3])) = some x2 := hf 2 _ rfl
      rw [cBo] at f2
      have f3 : DataW.trod enc Tryd.prog W 0 sp held m 3 (List.take (Tryd.prog.cellsOf 3) (List.drop 3 [c0, c1, c2, c3])) = some x3 := hf 3 _ rfl
      rw [cI] at f3
      obtain ⟨a0, e0, s0⟩ := text_open Tryd.underlying9 f0 w0
      obtain ⟨a1, e1⟩ := bool_open Tryd.underlying4 f1
      obtain ⟨a2, e2⟩ := bool_open Tryd.underlying4 f2
      obtain ⟨a3, e3⟩ := int_open Tryd.underlying3 f3
      obtain rfl := (List.cons.inj e0).1
      obtain rfl := (List.cons.inj e1).1
      obtain rfl := (List.cons.inj e2).1
      obtain rfl := (List.cons.inj e3).1
      exact ⟨⟨a0, a1, a2, a3⟩, rfl, s0⟩
set_option maxRecDepth 100000 in
theorem dp_open (fuel : Nat) (cs : List Value) (x : DataW H × List MemPlace) (h : DataW.trod enc Tryd.prog W 0 sp held fuel 49 cs = some x) (hw : ∀ n ∈ x.1.weights Tryd.prog 49, n ≤ reachBytes) :
    ∃ (z : SD) (A2 A5 : Option Addr) (c2 c5 : Nat), cs = [.int .i64 z.f0, .string z.f1, .slice A2 z.f2.length c2, .int .i64 z.f3, .int .i64 z.f4, .slice A5 z.f5.length c5, .int .i64 z.f6] ∧ kQ.C W A2 z.f2.length z.f2 ∧ kS.C W A5 z.f5.length z.f5 ∧ z.f2.length ≤ c2 ∧ z.f5.length ≤ c5 ∧ wellD z := by
  obtain ⟨xs, m, rfl, rfl, hlen, hxl, hf⟩ := DataW.trod_struct Tryd.underlying49 h
  rw [cD] at hlen
  match cs, hlen with
  | [c0, c1, c2, c3, c4, c5, c6], _ =>
    match xs, hxl with
    | [x0, x1, x2, x3, x4, x5, x6], _ =>
      have f0 : DataW.trod enc Tryd.prog W 0 sp held m 3 (List.take (Tryd.prog.cellsOf 3) (List.drop 0 [c0, c1, c2, c3, c4, c5, c6])) = some x0 := hf 0 _ rfl
      rw [cI] at f0
      have f1 : DataW.trod enc Tryd.prog W 0 sp held m 9 (List.take (Tryd.prog.cellsOf 9) (List.drop 1 [c0, c1, c2, c3, c4, c5, c6])) = some x1 := hf 1 _ rfl
      rw [cT] at f1
      have w1 := weights_field Tryd.underlying49 hw (i := 1) (d := x1.1) rfl rfl
      have f2 : DataW.trod enc Tryd.prog W 0 sp held m 47 (List.take (Tryd.prog.cellsOf 47) (List.drop 2 [c0, c1, c2, c3, c4, c5, c6])) = some x2 := hf 2 _ rfl
      rw [cLQ] at f2
      have w2 := weights_field Tryd.underlying49 hw (i := 2) (d := x2.1) rfl rfl
      have f3 : DataW.trod enc Tryd.prog W 0 sp held m 3 (List.take (Tryd.prog.cellsOf 3) (List.drop 3 [c0, c1, c2, c3, c4, c5, c6])) = some x3 := hf 3 _ rfl
      rw [cI] at f3
      have f4 : DataW.trod enc Tryd.prog W 0 sp held m 3 (List.take (Tryd.prog.cellsOf 3) (List.drop 4 [c0, c1, c2, c3, c4, c5, c6])) = some x4 := hf 4 _ rfl
      rw [cI] at f4
      have f5 : DataW.trod enc Tryd.prog W 0 sp held m 36 (List.take (Tryd.prog.cellsOf 36) (List.drop 5 [c0, c1, c2, c3, c4, c5, c6])) = some x5 := hf 5 _ rfl
      rw [cLS] at f5
      have w5 := weights_field Tryd.underlying49 hw (i := 5) (d := x5.1) rfl rfl
      have f6 : DataW.trod enc Tryd.prog W 0 sp held m 3 (List.take (Tryd.prog.cellsOf 3) (List.drop 6 [c0, c1, c2, c3, c4, c5, c6])) = some x6 := hf 6 _ rfl
      rw [cI] at f6
      obtain ⟨a0, e0⟩ := int_open Tryd.underlying3 f0
      obtain ⟨a1, e1, s1⟩ := text_open Tryd.underlying9 f1 w1
      obtain ⟨A2, d2, l2, e2, hl2, hC2, hQ2, hw2⟩ := row_open kQ Tryd.underlying47 cQ (fun q : SQ => nameOk q.f0) f2 w2 (fun n cs' y hn hy hv => by obtain ⟨z, rfl, hQ⟩ := qp_open n cs' y hy hv; exact ⟨z, k110_mk W z, hQ⟩)
      obtain ⟨a3, e3⟩ := int_open Tryd.underlying3 f3
      obtain ⟨a4, e4⟩ := int_open Tryd.underlying3 f4
      obtain ⟨A5, d5, l5, e5, hl5, hC5, hQ5, hw5⟩ := row_open kS Tryd.underlying36 cS (fun s : SS => AllN szN (.st s) ∧ AllN lenN (.st s)) f5 w5 (fun n cs' y hn hy hv => by obtain ⟨z, A5, A6, A7, A8, A9, c5, c6, c7, c8, c9, rfl, ⟨h5, h6, h7, h8, h9⟩, ⟨l5, l6, l7, l8, l9⟩, hQ, hM⟩ := st_open n cs' y hy hv; exact ⟨z, k38_mk W z l5 h5 l6 h6 l7 h7 l8 h8 l9 h9, hQ, hM⟩)
      obtain ⟨a6, e6⟩ := int_open Tryd.underlying3 f6
      obtain rfl := (List.cons.inj e0).1
      obtain rfl := (List.cons.inj e1).1
      obtain rfl := (List.cons.inj e2).1
      obtain rfl := (List.cons.inj e3).1
      obtain rfl := (List.cons.inj e4).1
      obtain rfl := (List.cons.inj e5).1
      obtain rfl := (List.cons.inj e6).1
      exact ⟨⟨a0, a1, l2, a3, a4, l5, a6⟩, A2, A5, d2, d5, rfl, hC2, hC5, hl2, hl5, ⟨s1, hQ2, lenR hw2 (by rw [bQ]; decide), lenR hw5 (by rw [bS]; decide), hQ5⟩⟩
set_option maxRecDepth 100000 in
theorem pp_open (fuel : Nat) (cs : List Value) (x : DataW H × List MemPlace) (h : DataW.trod enc Tryd.prog W 0 sp held fuel 46 cs = some x) (hw : ∀ n ∈ x.1.weights Tryd.prog 46, n ≤ reachBytes) :
    ∃ (z : SP) (A1 A2 A3 : Option Addr) (c1 c2 c3 : Nat), cs = [.int .i64 z.f0, .slice A1 z.f1.length c1, .slice A2 z.f2.length c2, .slice A3 z.f3.length c3] ∧ kG.C W A1 z.f1.length z.f1 ∧ kT.C W A2 z.f2.length z.f2 ∧ kD.C W A3 z.f3.length z.f3 ∧ z.f1.length ≤ c1 ∧ z.f2.length ≤ c2 ∧ z.f3.length ≤ c3 ∧ wellP z := by
  obtain ⟨xs, m, rfl, rfl, hlen, hxl, hf⟩ := DataW.trod_struct Tryd.underlying46 h
  rw [cP] at hlen
  match cs, hlen with
  | [c0, c1, c2, c3], _ =>
    match xs, hxl with
    | [x0, x1, x2, x3], _ =>
      have f0 : DataW.trod enc Tryd.prog W 0 sp held m 3 (List.take (Tryd.prog.cellsOf 3) (List.drop 0 [c0, c1, c2, c3])) = some x0 := hf 0 _ rfl
      rw [cI] at f0
      have f1 : DataW.trod enc Tryd.prog W 0 sp held m 42 (List.take (Tryd.prog.cellsOf 42) (List.drop 1 [c0, c1, c2, c3])) = some x1 := hf 1 _ rfl
      rw [cLG] at f1
      have w1 := weights_field Tryd.underlying46 hw (i := 1) (d := x1.1) rfl rfl
      have f2 : DataW.trod enc Tryd.prog W 0 sp held m 43 (List.take (Tryd.prog.cellsOf 43) (List.drop 2 [c0, c1, c2, c3])) = some x2 := hf 2 _ rfl
      rw [cLT'] at f2
      have w2 := weights_field Tryd.underlying46 hw (i := 2) (d := x2.1) rfl rfl
      have f3 : DataW.trod enc Tryd.prog W 0 sp held m 44 (List.take (Tryd.prog.cellsOf 44) (List.drop 3 [c0, c1, c2, c3])) = some x3 := hf 3 _ rfl
      rw [cLD] at f3
      have w3 := weights_field Tryd.underlying46 hw (i := 3) (d := x3.1) rfl rfl
      obtain ⟨a0, e0⟩ := int_open Tryd.underlying3 f0
      obtain ⟨A1, d1, l1, e1, hl1, hC1, hQ1, hw1⟩ := row_open kG Tryd.underlying42 cG (fun g : SG => nameOk g.f0 ∧ g.f3.length ≤ 140737488351232) f1 w1 (fun n cs' y hn hy hv => by obtain ⟨z, A3, c3, rfl, h3, l3, hQ⟩ := gp_open n cs' y hy hv; exact ⟨z, k99_mk W z l3 h3, hQ⟩)
      obtain ⟨A2, d2, l2, e2, hl2, hC2, hQ2, hw2⟩ := row_open kT Tryd.underlying43 cGt (fun g : ST => nameOk g.f0) f2 w2 (fun n cs' y hn hy hv => by obtain ⟨z, rfl, hQ⟩ := tp_open n cs' y hy hv; exact ⟨z, k105_mk W z, hQ⟩)
      obtain ⟨A3, d3, l3, e3, hl3, hC3, hQ3, hw3⟩ := row_open kD Tryd.underlying44 cD wellD f3 w3 (fun n cs' y hn hy hv => by obtain ⟨z, A2, A5, c2, c5, rfl, h2, h5, l2, l5, hQ⟩ := dp_open n cs' y hy hv; exact ⟨z, k49_mk W z l2 h2 l5 h5, hQ⟩)
      obtain rfl := (List.cons.inj e0).1
      obtain rfl := (List.cons.inj e1).1
      obtain rfl := (List.cons.inj e2).1
      obtain rfl := (List.cons.inj e3).1
      exact ⟨⟨a0, l1, l2, l3⟩, A1, A2, A3, d1, d2, d3, rfl, hC1, hC2, hC3, hl1, hl2, hl3, ⟨hQ1, hQ2, hQ3, lenR hw1 (by rw [bG]; decide), lenR hw2 (by rw [bGt]; decide), lenR hw3 (by rw [bD]; decide)⟩⟩
end
end Go.Proofs.YtgkhpecllhiidaaDoor.A

/-! ## How much there is in a program, and whether its Lines are numbers of lines: what the law's functions answer. -/
namespace Go.Proofs.YtgkhpecllhiidaaDoor.A
open Go.RowKit Go.Shelf Go.Proofs.YtgkhpecllhiidaaDoor.As Go.Proofs.YtgkhpecllhiidaaDoorW.PrintWords Go.Proofs.YtgkhpecllhiidaaDoorW.PrintLast Go.Proofs.YtgkhpecllhiidaaDoorW.PrintMore
def sizeDs : List SD → Nat
  | [] => 0
  | d :: l => sizeSs d.f5 + sizeDs l
theorem sizes_nodes : ∀ l : List SD, sizes (nodes l) = sizeDs l
  | [] => rfl
  | d :: l => by
    have : nodes (d :: l) = d.f5.map .st ++ nodes l := by unfold nodes bodies; rw [List.flatMap_cons, List.map_append]
    rw [this, sizes_append, sizes_st, sizes_nodes l]; rfl
theorem rdD_nat (l : List SD) (i : Nat) (h : i < l.length) : rd_T49 l (i : Int) = l[i] := by
  unfold rd_T49; rw [Int.toNat_natCast, List.getD_eq_getElem?_getD, List.getElem?_eq_getElem h]; rfl
theorem rdG_nat (l : List SG) (i : Nat) (h : i < l.length) : rd_T99 l (i : Int) = l[i] := by
  unfold rd_T99; rw [Int.toNat_natCast, List.getD_eq_getElem?_getD, List.getElem?_eq_getElem h]; rfl
theorem rdT_nat (l : List ST) (i : Nat) (h : i < l.length) : rd_T105 l (i : Int) = l[i] := by
  unfold rd_T105; rw [Int.toNat_natCast, List.getD_eq_getElem?_getD, List.getElem?_eq_getElem h]; rfl
/-! ### Lines -/
mutual
def linedS : SS → Bool
  | ⟨_, a1, _, _, _, _, _, _, t, e⟩ => decide (0 ≤ a1) && (linedSs t && linedSs e)
def linedSs : List SS → Bool
  | [] => true
  | s :: l => linedS s && linedSs l
end
theorem linedSs_drop (l : List SS) (i : Nat) (h : i < l.length) : linedSs (l.drop i) = (linedS l[i] && linedSs (l.drop (i + 1))) := by rw [List.drop_eq_getElem_cons h, linedSs]
theorem linedS_eq (s : SS) : linedS s = (decide (0 ≤ s.f1) && (linedSs s.f8 && linedSs s.f9)) := by cases s; rfl
theorem deepS_kids (s : SS) : deepSs s.f8 < deepS s ∧ deepSs s.f9 < deepS s := by cases s; rw [deepS]; simp only []; omega
theorem sizeS_kids (s : SS) : sizeSs s.f8 < sizeS s ∧ sizeSs s.f9 < sizeS s := by cases s; rw [sizeS]; simp only []; omega
theorem sizeS_mem {l : List SS} {s : SS} (h : s ∈ l) : sizeS s ≤ sizeSs l := by
  induction l with
  | nil => cases h
  | cons x l ih =>
    rw [sizeSs]
    rcases List.mem_cons.1 h with rfl | h
    · omega
    · have := ih h; omega
theorem sizeS_pos (s : SS) : 1 ≤ sizeS s := by obtain ⟨_, _, _, _, _, _, _, _, _, _⟩ := s; rw [sizeS]; omega
theorem len_le_sizeSs : ∀ l : List SS, l.length ≤ sizeSs l
  | [] => by simp
  | s :: l => by rw [sizeSs, List.length_cons]; have := sizeS_pos s; have := len_le_sizeSs l; omega
def linedP (p : SP) : Bool := p.f1.all (fun g => decide (0 ≤ g.f4)) && (p.f2.all (fun g => decide (0 ≤ g.f3)) && p.f3.all (fun d => decide (0 ≤ d.f6) && linedSs d.f5))
theorem sizeDs_mem {l : List SD} {d : SD} (h : d ∈ l) : sizeSs d.f5 ≤ sizeDs l := by
  induction l with
  | nil => cases h
  | cons x l ih =>
    rw [sizeDs]
    rcases List.mem_cons.1 h with rfl | h
    · omega
    · have := ih h; omega
end Go.Proofs.YtgkhpecllhiidaaDoor.A

/-! ## The plain laws of equal trees: they are alike in size, depth and names, and one may be exactly if the other may. -/
namespace Go.Proofs.YtgkhpecllhiidaaDoor.A
open Go.RowKit Go.Shelf Go.Proofs.YtgkhpecllhiidaaDoor.As Go.Proofs.YtgkhpecllhiidaaDoorW.PrintWords Go.Proofs.YtgkhpecllhiidaaDoorW.PrintLast Go.Proofs.YtgkhpecllhiidaaDoorW.PrintMore

theorem text_eq {a b : ByteArray} (h : (a.toList == b.toList) = true) : a = b := by
  have h := beq_iff_eq.1 h
  rw [ByteArray.toList_eq, ByteArray.toList_eq] at h
  exact ByteArray.ext (Array.toList_inj.1 h)
theorem text_self (a : ByteArray) : (a.toList == a.toList) = true := beq_iff_eq.2 rfl
theorem eqL_eq {α : Type} {f : α → α → Bool} : ∀ l m : List α, (∀ a ∈ l, ∀ b, f a b = true → a = b) → eqL f l m = true → l = m
  | [], [], _, _ => rfl
  | [], _ :: _, _, h => by cases h
  | _ :: _, [], _, h => by cases h
  | a :: l, b :: m, hf, h => by
    rw [eqL, Bool.and_eq_true] at h
    rw [hf a (List.mem_cons_self ..) b h.1, eqL_eq l m (fun x hx => hf x (List.mem_cons_of_mem _ hx)) h.2]
theorem eqL_self {α : Type} {f : α → α → Bool} : ∀ l : List α, (∀ a ∈ l, f a a = true) → eqL f l l = true
  | [], _ => rfl
  | a :: l, hf => by rw [eqL, hf a (List.mem_cons_self ..), eqL_self l (fun x hx => hf x (List.mem_cons_of_mem _ hx))]; rfl
theorem eqL_length {α : Type} {f : α → α → Bool} : ∀ l m : List α, eqL f l m = true → l.length = m.length
  | [], [], _ => rfl
  | [], _ :: _, h => by cases h
  | _ :: _, [], h => by cases h
  | a :: l, b :: m, h => by
    rw [eqL, Bool.and_eq_true] at h
    rw [List.length_cons, List.length_cons, eqL_length l m h.2]
theorem eqL_all {α : Type} {f : α → α → Bool} {P Q : α → Bool} : ∀ l m : List α, eqL f l m = true → l.all Q = true → m.all Q = true → (∀ a ∈ l, ∀ b, f a b = true → Q a = true → Q b = true → P a = P b) → l.all P = m.all P
  | [], [], _, _, _, _ => rfl
  | [], _ :: _, h, _, _, _ => by cases h
  | _ :: _, [], h, _, _, _ => by cases h
  | a :: l, b :: m, h, h1, h2, hP => by
    rw [eqL, Bool.and_eq_true] at h
    rw [List.all_cons, Bool.and_eq_true] at h1 h2
    rw [List.all_cons, List.all_cons, hP a (List.mem_cons_self ..) b h.1 h1.1 h2.1, eqL_all l m h.2 h1.2 h2.2 (fun x hx => hP x (List.mem_cons_of_mem _ hx))]
theorem sameB_iff {x y : SE} (h : sameB x y = true) : x.f0 = y.f0 ∧ x.f1 = y.f1 ∧ x.f2 = y.f2 ∧ x.f3 = y.f3 ∧ x.f4 = y.f4 := by
  unfold sameB at h
  simp only [Bool.and_eq_true] at h
  exact ⟨beq_iff_eq.1 h.1, beq_iff_eq.1 h.2.1, beq_iff_eq.1 h.2.2.1, beq_iff_eq.1 h.2.2.2.1, text_eq h.2.2.2.2⟩
theorem sameB_self (x : SE) : sameB x x = true := by
  unfold sameB
  rw [beq_iff_eq.2 rfl, beq_iff_eq.2 rfl, beq_iff_eq.2 rfl, beq_iff_eq.2 rfl, text_self]; rfl
/-- Alike expressions are one. -/
theorem sameE_one : ∀ (D : Nat) (x y : SE), deepE x ≤ D → sameE x y = true → x = y
  | 0, ⟨_, _, _, _, _, l⟩, _, h, _ => by rw [deepE] at h; omega
  | D + 1, ⟨a0, a1, a2, a3, a4, l⟩, ⟨b0, b1, b2, b3, b4, m⟩, h, hs => by
    rw [deepE] at h
    rw [sameE_eq, Bool.and_eq_true] at hs
    obtain ⟨h0, h1, h2, h3, h4⟩ := sameB_iff hs.1
    have hl : l = m := eqL_eq l m (fun a ha b hab => sameE_one D a b (by have := deep_mem_E (l := l) ha; omega) hab) hs.2
    simp only at h0 h1 h2 h3 h4
    rw [h0, h1, h2, h3, h4, hl]
theorem sameE_refl : ∀ (D : Nat) (x : SE), deepE x ≤ D → sameE x x = true
  | 0, ⟨_, _, _, _, _, l⟩, h => by rw [deepE] at h; omega
  | D + 1, ⟨a0, a1, a2, a3, a4, l⟩, h => by
    rw [deepE] at h
    rw [sameE_eq, sameB_self, eqL_self l (fun a ha => sameE_refl D a (by have := deep_mem_E (l := l) ha; omega))]; rfl
theorem sameE_self (x : SE) : sameE x x = true := sameE_refl (deepE x) x (Nat.le_refl _)
theorem sameE_of {x y : SE} (h : sameE x y = true) : x = y := sameE_one (deepE x) x y (Nat.le_refl _) h
theorem sameE_comm (x y : SE) : sameE x y = sameE y x := by
  cases h : sameE x y
  · cases h2 : sameE y x
    · rfl
    · rw [sameE_of h2, sameE_self] at h; cases h
  · rw [sameE_of h, sameE_self]
theorem exprs_of {l m : List SE} (h : eqL sameE l m = true) : l = m := eqL_eq l m (fun _ _ _ h => sameE_of h) h
theorem texts_of {l m : List ByteArray} (h : eqT l m = true) : l = m := eqL_eq l m (fun _ _ _ h => text_eq h) h
theorem nums_of {l m : List Int} (h : eqN l m = true) : l = m := eqL_eq l m (fun _ _ _ h => beq_iff_eq.1 h) h
theorem params_of {l m : List SQ} (h : eqQ l m = true) : l = m := eqL_eq l m (fun a _ b h => by
  rw [Bool.and_eq_true] at h
  cases a; cases b
  have h1 := text_eq h.1
  have h2 := beq_iff_eq.1 h.2
  simp only at h1 h2
  rw [h1, h2]) h
theorem sameS_parts {x y : SS} (h : sameS x y = true) : x.f0 = y.f0 ∧ x.f2 = y.f2 ∧ x.f3 = y.f3 ∧ x.f4 = y.f4 ∧ x.f5 = y.f5 ∧ x.f6 = y.f6 ∧ x.f7 = y.f7 ∧ eqL sameS x.f8 y.f8 = true ∧ eqL sameS x.f9 y.f9 = true := by
  rw [sameS_eq] at h
  simp only [Bool.and_eq_true] at h
  obtain ⟨h0, h2, h3, h4, h5, h6, h7, h8, h9⟩ := h
  exact ⟨beq_iff_eq.1 h0, beq_iff_eq.1 h2, beq_iff_eq.1 h3, text_eq h4, texts_of h5, exprs_of h6, exprs_of h7, h8, h9⟩
theorem stmtB_same (a0 a1 b1 a2 a3 : Int) (a4 : ByteArray) (n : List ByteArray) (i x : List SE) (t t' e e' : List SS) (h1 : 0 ≤ a1) (h2 : 0 ≤ b1) (ht : t.length = t'.length) (he : e.length = e'.length) :
    stmtB ⟨a0, a1, a2, a3, a4, n, i, x, t, e⟩ = stmtB ⟨a0, b1, a2, a3, a4, n, i, x, t', e'⟩ := by
  unfold stmtB c_let c_set c_one c_iff c_whl c_num c_atm firstKind
  simp only [ht, he, if_neg (show ¬ a1 < 0 by omega), if_neg (show ¬ b1 < 0 by omega)]
/-- What alike statements have in common. -/
def AlikeS (x y : SS) : Prop := sizeS x = sizeS y ∧ deepS x = deepS y ∧ (linedS x = true → linedS y = true → rightS exprB stmtB x = rightS exprB stmtB y)
theorem alike_list : ∀ (l m : List SS), eqL sameS l m = true → (∀ a ∈ l, ∀ b, sameS a b = true → AlikeS a b) → sizeSs l = sizeSs m ∧ deepSs l = deepSs m ∧ (linedSs l = true → linedSs m = true → rightSs exprB stmtB l = rightSs exprB stmtB m)
  | [], [], _, _ => ⟨rfl, rfl, fun _ _ => rfl⟩
  | [], _ :: _, h, _ => by cases h
  | _ :: _, [], h, _ => by cases h
  | a :: l, b :: m, h, hA => by
    rw [eqL, Bool.and_eq_true] at h
    obtain ⟨h1, h2, h3⟩ := hA a (List.mem_cons_self ..) b h.1
    obtain ⟨k1, k2, k3⟩ := alike_list l m h.2 fun x hx => hA x (List.mem_cons_of_mem _ hx)
    refine ⟨by rw [sizeSs, sizeSs, h1, k1], by rw [deepSs, deepSs, h2, k2], fun q1 q2 => ?_⟩
    rw [linedSs, Bool.and_eq_true] at q1 q2
    rw [rightSs, rightSs, h3 q1.1 q2.1, k3 q1.2 q2.2]
theorem alike_S : ∀ (D : Nat) (x y : SS), deepS x ≤ D → sameS x y = true → AlikeS x y
  | 0, ⟨_, _, _, _, _, _, _, _, _, _⟩, _, h, _ => by rw [deepS] at h; omega
  | D + 1, ⟨a0, a1, a2, a3, a4, n, i, x, t, e⟩, ⟨b0, b1, b2, b3, b4, n', i', x', t', e'⟩, h, hs => by
    rw [deepS] at h
    obtain ⟨h0, h2, h3, h4, h5, h6, h7, h8, h9⟩ := sameS_parts hs
    simp only at h0 h2 h3 h4 h5 h6 h7 h8 h9
    subst h0 h2 h3 h4 h5 h6 h7
    obtain ⟨k1, k2, k3⟩ := alike_list t t' h8 fun a ha b hab => alike_S D a b (by have := deep_mem_S (l := t) ha; omega) hab
    obtain ⟨m1, m2, m3⟩ := alike_list e e' h9 fun a ha b hab => alike_S D a b (by have := deep_mem_S (l := e) ha; omega) hab
    refine ⟨by rw [sizeS, sizeS, k1, m1], by rw [deepS, deepS, k2, m2], fun q1 q2 => ?_⟩
    rw [linedS, Bool.and_eq_true, Bool.and_eq_true, decide_eq_true_eq] at q1 q2
    rw [rightS, rightS, stmtB_same a0 a1 b1 a2 a3 a4 n i x t t' e e' q1.1 q2.1 (eqL_length _ _ h8) (eqL_length _ _ h9), k3 q1.2.1 q2.2.1, m3 q1.2.2 q2.2.2]
theorem alike_of {x y : SS} (h : sameS x y = true) : AlikeS x y := alike_S (deepS x) x y (Nat.le_refl _) h
/-- The nodes of alike declarations. -/
theorem nodes_cons (d : SD) (l : List SD) : nodes (d :: l) = d.f5.map .st ++ nodes l := by unfold nodes bodies; rw [List.flatMap_cons, List.map_append]
theorem alike_row : ∀ (l m : List SS), eqL sameS l m = true → (l.map Nd.st).map Nd.size = (m.map Nd.st).map Nd.size ∧ (l.map Nd.st).map Nd.deep = (m.map Nd.st).map Nd.deep ∧ (linedSs l = true → linedSs m = true → (l.map Nd.st).all rightN = (m.map Nd.st).all rightN)
  | [], [], _ => ⟨rfl, rfl, fun _ _ => rfl⟩
  | [], _ :: _, h => by cases h
  | _ :: _, [], h => by cases h
  | a :: l, b :: m, h => by
    rw [eqL, Bool.and_eq_true] at h
    obtain ⟨h1, h2, h3⟩ := alike_of h.1
    obtain ⟨k1, k2, k3⟩ := alike_row l m h.2
    refine ⟨?_, ?_, fun q1 q2 => ?_⟩
    · simp only [List.map_cons]; rw [k1, show (Nd.st a).size = (Nd.st b).size from h1]
    · simp only [List.map_cons]; rw [k2, show (Nd.st a).deep = (Nd.st b).deep from h2]
    · rw [linedSs, Bool.and_eq_true] at q1 q2
      rw [List.map_cons, List.map_cons, List.all_cons, List.all_cons, k3 q1.2 q2.2, show rightN (Nd.st a) = rightN (Nd.st b) from h3 q1.1 q2.1]
def linedD (d : SD) : Bool := decide (0 ≤ d.f6) && linedSs d.f5
theorem sameD_parts {x y : SD} (h : sameD x y = true) : x.f0 = y.f0 ∧ x.f1 = y.f1 ∧ x.f2 = y.f2 ∧ x.f3 = y.f3 ∧ x.f4 = y.f4 ∧ eqL sameS x.f5 y.f5 = true := by
  rw [sameD_eq] at h
  simp only [Bool.and_eq_true] at h
  obtain ⟨h0, h1, h2, h3, h4, h5⟩ := h
  exact ⟨beq_iff_eq.1 h0, text_eq h1, params_of h2, beq_iff_eq.1 h3, beq_iff_eq.1 h4, h5⟩
theorem alike_nodes : ∀ (l m : List SD), eqL sameD l m = true → (nodes l).map Nd.size = (nodes m).map Nd.size ∧ (nodes l).map Nd.deep = (nodes m).map Nd.deep ∧ (l.all linedD = true → m.all linedD = true → (nodes l).all rightN = (nodes m).all rightN)
  | [], [], _ => ⟨rfl, rfl, fun _ _ => rfl⟩
  | [], _ :: _, h => by cases h
  | _ :: _, [], h => by cases h
  | a :: l, b :: m, h => by
    rw [eqL, Bool.and_eq_true] at h
    obtain ⟨_, _, _, _, _, h5⟩ := sameD_parts h.1
    obtain ⟨r1, r2, r3⟩ := alike_row a.f5 b.f5 h5
    obtain ⟨k1, k2, k3⟩ := alike_nodes l m h.2
    rw [nodes_cons, nodes_cons]
    refine ⟨by rw [List.map_append, List.map_append, r1, k1], by rw [List.map_append, List.map_append, r2, k2], fun q1 q2 => ?_⟩
    rw [List.all_cons, Bool.and_eq_true] at q1 q2
    have p1 := q1.1
    have p2 := q2.1
    unfold linedD at p1 p2
    rw [Bool.and_eq_true] at p1 p2
    rw [List.all_append, List.all_append, r3 p1.2 p2.2, k3 q1.2 q2.2]
theorem tooLong_map : ∀ (l m : List Nd) (c : Nat), l.map Nd.size = m.map Nd.size → l.map Nd.deep = m.map Nd.deep → tooLong c l = tooLong c m
  | [], [], _, _, _ => rfl
  | [], _ :: _, _, h, _ => by cases h
  | _ :: _, [], _, h, _ => by cases h
  | a :: l, b :: m, c, h1, h2 => by
    rw [List.map_cons, List.map_cons] at h1 h2
    rw [tooLong, tooLong, (List.cons.inj h1).1, (List.cons.inj h2).1, tooLong_map l m _ (List.cons.inj h1).2 (List.cons.inj h2).2]
theorem deeps_map (l m : List Nd) (h : l.map Nd.deep = m.map Nd.deep) : deeps l = deeps m := by
  have key : ∀ (l : List Nd) (c : Nat), l.foldl (fun c x => max c x.deep) c = (l.map Nd.deep).foldl max c := by
    intro l
    induction l with
    | nil => intro c; rfl
    | cons x l ih => intro c; rw [List.foldl_cons, List.map_cons, List.foldl_cons, ih]
  unfold deeps
  rw [key, key, h]
theorem sameG_parts {x y : SG} (h : sameG x y = true) : x.f0 = y.f0 ∧ x.f1 = y.f1 ∧ x.f2 = y.f2 ∧ x.f3 = y.f3 := by
  rw [sameG_eq] at h
  simp only [Bool.and_eq_true] at h
  exact ⟨text_eq h.1, beq_iff_eq.1 h.2.1, beq_iff_eq.1 h.2.2.1, nums_of h.2.2.2⟩
theorem sameT_parts {x y : ST} (h : sameT x y = true) : x.f0 = y.f0 ∧ x.f1 = y.f1 ∧ x.f2 = y.f2 := by
  rw [sameT_eq] at h
  simp only [Bool.and_eq_true] at h
  exact ⟨text_eq h.1, beq_iff_eq.1 h.2.1, beq_iff_eq.1 h.2.2⟩
theorem sameP_parts {p q : SP} (h : sameP p q = true) : p.f0 = q.f0 ∧ eqL sameG p.f1 q.f1 = true ∧ eqL sameT p.f2 q.f2 = true ∧ eqL sameD p.f3 q.f3 = true := by
  rw [sameP_eq] at h
  simp only [Bool.and_eq_true] at h
  exact ⟨beq_iff_eq.1 h.1, h.2.1, h.2.2.1, h.2.2.2⟩
/-- Equal programs have the same size, the same depth, and may be alike if their Lines are none below 0. -/
theorem sames_law (p q : SP) (h : sameP p q = true) : sizes (nodes p.f3) = sizes (nodes q.f3) ∧ deeps (nodes p.f3) = deeps (nodes q.f3) ∧ (linedP p = true → linedP q = true → checkP p = checkP q) := by
  obtain ⟨h0, h1, h2, h3⟩ := sameP_parts h
  obtain ⟨k1, k2, k3⟩ := alike_nodes _ _ h3
  refine ⟨by unfold sizes; rw [k1], deeps_map _ _ k2, fun q1 q2 => ?_⟩
  unfold linedP at q1 q2
  rw [Bool.and_eq_true, Bool.and_eq_true] at q1 q2
  have hn : checkN (nodes p.f3) = checkN (nodes q.f3) := by
    unfold checkN
    rw [tooLong_map _ _ 0 k1 k2, k3 q1.2.2 q2.2.2]
  have e1 : p.f1.all globB = q.f1.all globB := eqL_all _ _ h1 q1.1 q2.1 fun a _ b hab ha hb => by
    obtain ⟨g0, g1, g2, g3⟩ := sameG_parts hab
    unfold globB
    rw [g0, g1, g2, g3, decide_eq_true (show a.f4 ≥ 0 by simpa using ha), decide_eq_true (show b.f4 ≥ 0 by simpa using hb)]
  have e2 : p.f2.all gateB = q.f2.all gateB := eqL_all _ _ h2 q1.2.1 q2.2.1 fun a _ b hab ha hb => by
    obtain ⟨g0, g1, g2⟩ := sameT_parts hab
    unfold gateB
    rw [g0, g1, g2, decide_eq_true (show a.f3 ≥ 0 by simpa using ha), decide_eq_true (show b.f3 ≥ 0 by simpa using hb)]
  have e3 : p.f3.all declB = q.f3.all declB := eqL_all _ _ h3 q1.2.2 q2.2.2 fun a _ b hab ha hb => by
    obtain ⟨g0, g1, g2, g3, g4, _⟩ := sameD_parts hab
    rw [Bool.and_eq_true] at ha hb
    unfold declB declV
    rw [g0, g1, g2, g3, g4, decide_eq_false (show ¬ a.f6 < 0 by have := of_decide_eq_true ha.1; omega), decide_eq_false (show ¬ b.f6 < 0 by have := of_decide_eq_true hb.1; omega)]
  unfold checkP
  rw [hn, h0, e1, e2, e3]
/-! ### What memory allows, out of how much there is -/
mutual
theorem deep_le_S : ∀ s : SS, deepS s ≤ sizeS s
  | ⟨_, _, _, _, _, _, i, x, t, e⟩ => by rw [deepS, sizeS]; have := deep_le_Es i; have := deep_le_Es x; have := deep_le_Ss t; have := deep_le_Ss e; omega
theorem deep_le_Ss : ∀ l : List SS, deepSs l ≤ sizeSs l
  | [] => by simp [deepSs, sizeSs]
  | e :: l => by rw [deepSs, sizeSs]; have := deep_le_S e; have := deep_le_Ss l; omega
end
theorem bodies_len : ∀ l : List SD, (bodies l).length ≤ sizeDs l
  | [] => Nat.le_refl _
  | d :: l => by
    have : bodies (d :: l) = d.f5 ++ bodies l := by unfold bodies; rw [List.flatMap_cons]
    rw [this, List.length_append, sizeDs]
    have := len_le_sizeSs d.f5
    have := bodies_len l
    omega
theorem mem_nodes {l : List SD} {x : Nd} (h : x ∈ nodes l) : ∃ d ∈ l, ∃ s ∈ d.f5, x = .st s := by
  unfold nodes bodies at h
  obtain ⟨s, hs, rfl⟩ := List.mem_map.1 h
  obtain ⟨d, hd, hs⟩ := List.mem_flatMap.1 hs
  exact ⟨d, hd, s, hs, rfl⟩
theorem fit_light (p : SP) (hw : wellP p) (hs : sizeDs p.f3 ≤ 4000) : fitP p = true := by
  obtain ⟨h1, h2, h3, _, _, _⟩ := hw
  unfold fitP okT
  simp only [Bool.and_eq_true, decide_eq_true_eq, List.all_eq_true]
  refine ⟨?_, ?_, ?_, fun g hg => (h1 g hg).1, fun g hg => h2 g hg, fun d hd => ⟨(h3 d hd).1, fun q hq => (h3 d hd).2.1 q hq⟩⟩
  · have := bodies_len p.f3; omega
  · rw [sizes_nodes]; omega
  · intro x hx
    obtain ⟨d, hd, s, hsm, rfl⟩ := mem_nodes hx
    have a1 := sizeDs_mem hd
    have a2 := sizeS_mem hsm
    have a3 := deep_le_S s
    refine fit_of (by show sizeS s < _; omega) (by show deepS s < _; omega) (((h3 d hd).2.2.2.2 s hsm).1)
end Go.Proofs.YtgkhpecllhiidaaDoor.A
