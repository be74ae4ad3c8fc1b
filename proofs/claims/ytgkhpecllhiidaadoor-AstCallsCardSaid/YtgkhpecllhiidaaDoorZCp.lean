/- Rows for programs: what an argument that is a program reads as. -/
import Derived.Test.YtgkhpecllhiidaaDoorZCa
import Derived.Test.YtgkhpecllhiidaaDoorZAo
import Derived.Test.YtgkhpecllhiidaaDoorZBn
import Derived.Test.YtgkhpecllhiidaaDoorZCg
set_option linter.unusedVariables false
set_option linter.unusedSimpArgs false
namespace Go.Proofs.YtgkhpecllhiidaaDoor.A
open Go.RowKit Go.Shelf Go.Proofs.YtgkhpecllhiidaaDoor.As Go.Proofs.YtgkhpecllhiidaaDoorW.PrintWords Go.Proofs.YtgkhpecllhiidaaDoorW.PrintLast Go.Proofs.YtgkhpecllhiidaaDoorW.PrintMore
open Go (DataW MemPlace)
def nameOk (s : ByteArray) : Prop := s.size ≤ 140737488351232
def wellD (d : SD) : Prop := nameOk d.f1 ∧ (∀ q ∈ d.f2, nameOk q.f0) ∧ d.f2.length ≤ 140737488351232 ∧ d.f5.length ≤ 140737488351232 ∧ ∀ s ∈ d.f5, AllN szN (.st s) ∧ AllN lenN (.st s)
def wellP (p : SP) : Prop := (∀ g ∈ p.f1, nameOk g.f0 ∧ g.f3.length ≤ 140737488351232) ∧ (∀ g ∈ p.f2, nameOk g.f0) ∧ (∀ d ∈ p.f3, wellD d) ∧ p.f1.length ≤ 140737488351232 ∧ p.f2.length ≤ 140737488351232 ∧ p.f3.length ≤ 140737488351232
section
variable {H : Type} {enc : TypeId × Value → H} {W : World} {sp : Nat → Bool} {held : Bool}
theorem cBo : Tryd.prog.cellsOf 4 = 1 := by kernel_rfl
theorem cLU : Tryd.prog.cellsOf 97 = 1 := by kernel_rfl
theorem cLQ : Tryd.prog.cellsOf 47 = 1 := by kernel_rfl
theorem cLG : Tryd.prog.cellsOf 42 = 1 := by kernel_rfl
theorem cLT' : Tryd.prog.cellsOf 43 = 1 := by kernel_rfl
theorem cLD : Tryd.prog.cellsOf 44 = 1 := by kernel_rfl
theorem cG : Tryd.prog.cellsOf 99 = 5 := by kernel_rfl
theorem cGt : Tryd.prog.cellsOf 105 = 4 := by kernel_rfl
theorem cQ : Tryd.prog.cellsOf 110 = 2 := by kernel_rfl
theorem cD : Tryd.prog.cellsOf 49 = 7 := by kernel_rfl
theorem cP : Tryd.prog.cellsOf 46 = 4 := by kernel_rfl
theorem bU : Tryd.prog.bytesOf 22 = 4 := by kernel_rfl
theorem bS : Tryd.prog.bytesOf 38 = 168 := by kernel_rfl
theorem bQ : Tryd.prog.bytesOf 110 = 24 := by kernel_rfl
theorem bG : Tryd.prog.bytesOf 99 = 64 := by kernel_rfl
theorem bGt : Tryd.prog.bytesOf 105 = 32 := by kernel_rfl
theorem bD : Tryd.prog.bytesOf 49 = 96 := by kernel_rfl
theorem bool_open {t : TypeId} (ht : Tryd.prog.underlying t = some .bool) {fuel : Nat} {cs : List Value} {x : DataW H × List MemPlace} (h : DataW.trod enc Tryd.prog W 0 sp held fuel t cs = some x) : ∃ b, cs = [.bool b] := by
  obtain ⟨n, h1, _⟩ := DataW.trod_bool ht h
  exact ⟨n, h1⟩
theorem lenR {n k : Nat} (h : n * k ≤ reachBytes) (hk : 1 ≤ k) : n ≤ 140737488351232 := by
  have : reachBytes = 140737488351232 := rfl
  have := Nat.le_mul_of_pos_right n hk
  omega
instance : Inhabited SQ := ⟨⟨ByteArray.empty, 0⟩⟩
instance : Inhabited SG := ⟨⟨ByteArray.empty, 0, 0, [], 0⟩⟩
instance : Inhabited ST := ⟨⟨ByteArray.empty, false, false, 0⟩⟩
instance : Inhabited SD := ⟨⟨0, ByteArray.empty, [], 0, 0, [], 0⟩⟩
set_option maxRecDepth 100000 in
theorem qp_open (fuel : Nat) (cs : List Value) (x : DataW H × List MemPlace) (h : DataW.trod enc Tryd.prog W 0 sp held fuel 110 cs = some x) (hw : ∀ n ∈ x.1.weights Tryd.prog 110, n ≤ reachBytes) :
    ∃ (z : SQ), cs = [.string z.f0, .int .i64 z.f1] ∧ nameOk z.f0 := by
  obtain ⟨xs, m, rfl, rfl, hlen, hxl, hf⟩ := DataW.trod_struct Tryd.underlying110 h
  rw [cQ] at hlen
  match cs, hlen with
  | [c0, c1], _ =>
    match xs, hxl with
    | [x0, x1], _ =>
      have f0 : DataW.trod enc Tryd.prog W 0 sp held m 9 (List.take (Tryd.prog.cellsOf 9) (List.drop 0 [c0, c1])) = some x0 := hf 0 _ rfl
      rw [cT] at f0
      have w0 := weights_field Tryd.underlying110 hw (i := 0) (d := x0.1) rfl rfl
      have f1 : DataW.trod enc Tryd.prog W 0 sp held m 3 (List.take (Tryd.prog.cellsOf 3) (List.drop 1 [c0, c1])) = some x1 := hf 1 _ rfl
      rw [cI] at f1
      obtain ⟨a0, e0, s0⟩ := text_open Tryd.underlying9 f0 w0
      obtain ⟨a1, e1⟩ := int_open Tryd.underlying3 f1
      obtain rfl := (List.cons.inj e0).1
      obtain rfl := (List.cons.inj e1).1
      exact ⟨⟨a0, a1⟩, rfl, s0⟩
set_option maxRecDepth 100000 in
theorem gp_open (fuel : Nat) (cs : List Value) (x : DataW H × List MemPlace) (h : DataW.trod enc Tryd.prog W 0 sp held fuel 99 cs = some x) (hw : ∀ n ∈ x.1.weights Tryd.prog 99, n ≤ reachBytes) :
    ∃ (z : SG) (A3 : Option Addr) (c3 : Nat), cs = [.string z.f0, .int .i64 z.f1, .int .i64 z.f2, .slice A3 z.f3.length c3, .int .i64 z.f4] ∧ (Kd.int .u32).C W A3 z.f3.length z.f3 ∧ z.f3.length ≤ c3 ∧ (nameOk z.f0 ∧ z.f3.length ≤ 140737488351232) := by
  obtain ⟨xs, m, rfl, rfl, hlen, hxl, hf⟩ := DataW.trod_struct Tryd.underlying99 h
  rw [cG] at hlen
  match cs, hlen with
  | [c0, c1, c2, c3, c4], _ =>
    match xs, hxl with
    | [x0, x1, x2, x3, x4], _ =>
      have f0 : DataW.trod enc Tryd.prog W 0 sp held m 9 (List.take (Tryd.prog.cellsOf 9) (List.drop 0 [c0, c1, c2, c3, c4])) = some x0 := hf 0 _ rfl
      rw [cT] at f0
      have w0 := weights_field Tryd.underlying99 hw (i := 0) (d := x0.1) rfl rfl
      have f1 : DataW.trod enc Tryd.prog W 0 sp held m 3 (List.take (Tryd.prog.cellsOf 3) (List.drop 1 [c0, c1, c2, c3, c4])) = some x1 := hf 1 _ rfl
      rw [cI] at f1
      have f2 : DataW.trod enc Tryd.prog W 0 sp held m 3 (List.take (Tryd.prog.cellsOf 3) (List.drop 2 [c0, c1, c2, c3, c4])) = some x2 := hf 2 _ rfl
      rw [cI] at f2
      have f3 : DataW.trod enc Tryd.prog W 0 sp held m 97 (List.take (Tryd.prog.cellsOf 97) (List.drop 3 [c0, c1, c2, c3, c4])) = some x3 := hf 3 _ rfl
      rw [cLU] at f3
      have w3 := weights_field Tryd.underlying99 hw (i := 3) (d := x3.1) rfl rfl
      have f4 : DataW.trod enc Tryd.prog W 0 sp held m 3 (List.take (Tryd.prog.cellsOf 3) (List.drop 4 [c0, c1, c2, c3, c4])) = some x4 := hf 4 _ rfl
      rw [cI] at f4
      obtain ⟨a0, e0, s0⟩ := text_open Tryd.underlying9 f0 w0
      obtain ⟨a1, e1⟩ := int_open Tryd.underlying3 f1
      obtain ⟨a2, e2⟩ := int_open Tryd.underlying3 f2
      obtain ⟨A3, d3, l3, e3, hl3, hC3, hQ3, hw3⟩ := row_open (Kd.int .u32) Tryd.underlying97 cU (fun _ => True) f3 w3 (fun n cs' y hn hy hv => by obtain ⟨a, rfl⟩ := int_open Tryd.underlying22 hy; exact ⟨a, rfl, trivial⟩)
      obtain ⟨a4, e4⟩ := int_open Tryd.underlying3 f4
      obtain rfl := (List.cons.inj e0).1
      obtain rfl := (List.cons.inj e1).1
      obtain rfl := (List.cons.inj e2).1
      obtain rfl := (List.cons.inj e3).1
      obtain rfl := (List.cons.inj e4).1
      exact ⟨⟨a0, a1, a2, l3, a4⟩, A3, d3, rfl, hC3, hl3, ⟨s0, lenR hw3 (by rw [bU]; decide)⟩⟩
set_option maxRecDepth 100000 in
theorem tp_open (fuel : Nat) (cs : List Value) (x : DataW H × List MemPlace) (h : DataW.trod enc Tryd.prog W 0 sp held fuel 105 cs = some x) (hw : ∀ n ∈ x.1.weights Tryd.prog 105, n ≤ reachBytes) :
    ∃ (z : ST), cs = [.string z.f0, .bool z.f1, .bool z.f2, .int .i64 z.f3] ∧ nameOk z.f0 := by
  obtain ⟨xs, m, rfl, rfl, hlen, hxl, hf⟩ := DataW.trod_struct Tryd.underlying105 h
  rw [cGt] at hlen
  match cs, hlen with
  | [c0, c1, c2, c3], _ =>
    match xs, hxl with
    | [x0, x1, x2, x3], _ =>
      have f0 : DataW.trod enc Tryd.prog W 0 sp held m 9 (List.take (Tryd.prog.cellsOf 9) (List.drop 0 [c0, c1, c2, c3])) = some x0 := hf 0 _ rfl
      rw [cT] at f0
      have w0 := weights_field Tryd.underlying105 hw (i := 0) (d := x0.1) rfl rfl
      have f1 : DataW.trod enc Tryd.prog W 0 sp held m 4 (List.take (Tryd.prog.cellsOf 4) (List.drop 1 [c0, c1, c2, c3])) = some x1 := hf 1 _ rfl
      rw [cBo] at f1
      have f2 : DataW.trod enc Tryd.prog W 0 sp held m 4 (List.take (Tryd.prog.cellsOf 4) (List.drop 2 [c0, c1, c2, c3])) = some x2 := hf 2 _ rfl
      rw [cBo] at f2
      have f3 : DataW.trod enc Tryd.prog W 0 sp held m 3 (List.take (Tryd.prog.cellsOf 3) (List.drop 3 [c0, c1, c2, c3])) = some x3 := hf 3 _ rfl
      rw [cI] at f3
      obtain ⟨a0, e0, s0⟩ := text_open Tryd.underlying9 f0 w0
      obtain ⟨a1, e1⟩ := bool_open Tryd.underlying4 f1
      obtain ⟨a2, e2⟩ := bool_open Tryd.underlying4 f2
      obtain ⟨a3, e3⟩ := int_open Tryd.underlying3 f3
      obtain rfl := (List.cons.inj e0).1
      obtain rfl := (List.cons.inj e1).1
      obtain rfl := (List.cons.inj e2).1
      obtain rfl := (List.cons.inj e3).1
      exact ⟨⟨a0, a1, a2, a3⟩, rfl, s0⟩
set_option maxRecDepth 100000 in
theorem dp_open (fuel : Nat) (cs : List Value) (x : DataW H × List MemPlace) (h : DataW.trod enc Tryd.prog W 0 sp held fuel 49 cs = some x) (hw : ∀ n ∈ x.1.weights Tryd.prog 49, n ≤ reachBytes) :
    ∃ (z : SD) (A2 A5 : Option Addr) (c2 c5 : Nat), cs = [.int .i64 z.f0, .string z.f1, .slice A2 z.f2.length c2, .int .i64 z.f3, .int .i64 z.f4, .slice A5 z.f5.length c5, .int .i64 z.f6] ∧ kQ.C W A2 z.f2.length z.f2 ∧ kS.C W A5 z.f5.length z.f5 ∧ z.f2.length ≤ c2 ∧ z.f5.length ≤ c5 ∧ wellD z := by
  obtain ⟨xs, m, rfl, rfl, hlen, hxl, hf⟩ := DataW.trod_struct Tryd.underlying49 h
  rw [cD] at hlen
  match cs, hlen with
  | [c0, c1, c2, c3, c4, c5, c6], _ =>
    match xs, hxl with
    | [x0, x1, x2, x3, x4, x5, x6], _ =>
      have f0 : DataW.trod enc Tryd.prog W 0 sp held m 3 (List.take (Tryd.prog.cellsOf 3) (List.drop 0 [c0, c1, c2, c3, c4, c5, c6])) = some x0 := hf 0 _ rfl
      rw [cI] at f0
      have f1 : DataW.trod enc Tryd.prog W 0 sp held m 9 (List.take (Tryd.prog.cellsOf 9) (List.drop 1 [c0, c1, c2, c3, c4, c5, c6])) = some x1 := hf 1 _ rfl
      rw [cT] at f1
      have w1 := weights_field Tryd.underlying49 hw (i := 1) (d := x1.1) rfl rfl
      have f2 : DataW.trod enc Tryd.prog W 0 sp held m 47 (List.take (Tryd.prog.cellsOf 47) (List.drop 2 [c0, c1, c2, c3, c4, c5, c6])) = some x2 := hf 2 _ rfl
      rw [cLQ] at f2
      have w2 := weights_field Tryd.underlying49 hw (i := 2) (d := x2.1) rfl rfl
      have f3 : DataW.trod enc Tryd.prog W 0 sp held m 3 (List.take (Tryd.prog.cellsOf 3) (List.drop 3 [c0, c1, c2, c3, c4, c5, c6])) = some x3 := hf 3 _ rfl
      rw [cI] at f3
      have f4 : DataW.trod enc Tryd.prog W 0 sp held m 3 (List.take (Tryd.prog.cellsOf 3) (List.drop 4 [c0, c1, c2, c3, c4, c5, c6])) = some x4 := hf 4 _ rfl
      rw [cI] at f4
      have f5 : DataW.trod enc Tryd.prog W 0 sp held m 36 (List.take (Tryd.prog.cellsOf 36) (List.drop 5 [c0, c1, c2, c3, c4, c5, c6])) = some x5 := hf 5 _ rfl
      rw [cLS] at f5
      have w5 := weights_field Tryd.underlying49 hw (i := 5) (d := x5.1) rfl rfl
      have f6 : DataW.trod enc Tryd.prog W 0 sp held m 3 (List.take (Tryd.prog.cellsOf 3) (List.drop 6 [c0, c1, c2, c3, c4, c5, c6])) = some x6 := hf 6 _ rfl
      rw [cI] at f6
      obtain ⟨a0, e0⟩ := int_open Tryd.underlying3 f0
      obtain ⟨a1, e1, s1⟩ := text_open Tryd.underlying9 f1 w1
      obtain ⟨A2, d2, l2, e2, hl2, hC2, hQ2, hw2⟩ := row_open kQ Tryd.underlying47 cQ (fun q : SQ => nameOk q.f0) f2 w2 (fun n cs' y hn hy hv => by obtain ⟨z, rfl, hQ⟩ := qp_open n cs' y hy hv; exact ⟨z, k110_mk W z, hQ⟩)
      obtain ⟨a3, e3⟩ := int_open Tryd.underlying3 f3
      obtain ⟨a4, e4⟩ := int_open Tryd.underlying3 f4
      obtain ⟨A5, d5, l5, e5, hl5, hC5, hQ5, hw5⟩ := row_open kS Tryd.underlying36 cS (fun s : SS => AllN szN (.st s) ∧ AllN lenN (.st s)) f5 w5 (fun n cs' y hn hy hv => by obtain ⟨z, A5, A6, A7, A8, A9, c5, c6, c7, c8, c9, rfl, ⟨h5, h6, h7, h8, h9⟩, ⟨l5, l6, l7, l8, l9⟩, hQ, hM⟩ := st_open n cs' y hy hv; exact ⟨z, k38_mk W z l5 h5 l6 h6 l7 h7 l8 h8 l9 h9, hQ, hM⟩)
      obtain ⟨a6, e6⟩ := int_open Tryd.underlying3 f6
      obtain rfl := (List.cons.inj e0).1
      obtain rfl := (List.cons.inj e1).1
      obtain rfl := (List.cons.inj e2).1
      obtain rfl := (List.cons.inj e3).1
      obtain rfl := (List.cons.inj e4).1
      obtain rfl := (List.cons.inj e5).1
      obtain rfl := (List.cons.inj e6).1
      exact ⟨⟨a0, a1, l2, a3, a4, l5, a6⟩, A2, A5, d2, d5, rfl, hC2, hC5, hl2, hl5, ⟨s1, hQ2, lenR hw2 (by rw [bQ]; decide), lenR hw5 (by rw [bS]; decide), hQ5⟩⟩
set_option maxRecDepth 100000 in
theorem pp_open (fuel : Nat) (cs : List Value) (x : DataW H × List MemPlace) (h : DataW.trod enc Tryd.prog W 0 sp held fuel 46 cs = some x) (hw : ∀ n ∈ x.1.weights Tryd.prog 46, n ≤ reachBytes) :
    ∃ (z : SP) (A1 A2 A3 : Option Addr) (c1 c2 c3 : Nat), cs = [.int .i64 z.f0, .slice A1 z.f1.length c1, .slice A2 z.f2.length c2, .slice A3 z.f3.length c3] ∧ kG.C W A1 z.f1.length z.f1 ∧ kT.C W A2 z.f2.length z.f2 ∧ kD.C W A3 z.f3.length z.f3 ∧ z.f1.length ≤ c1 ∧ z.f2.length ≤ c2 ∧ z.f3.length ≤ c3 ∧ wellP z := by
  obtain ⟨xs, m, rfl, rfl, hlen, hxl, hf⟩ := DataW.trod_struct Tryd.underlying46 h
  rw [cP] at hlen
  match cs, hlen with
  | [c0, c1, c2, c3], _ =>
    match xs, hxl with
    | [x0, x1, x2, x3], _ =>
      have f0 : DataW.trod enc Tryd.prog W 0 sp held m 3 (List.take (Tryd.prog.cellsOf 3) (List.drop 0 [c0, c1, c2, c3])) = some x0 := hf 0 _ rfl
      rw [cI] at f0
      have f1 : DataW.trod enc Tryd.prog W 0 sp held m 42 (List.take (Tryd.prog.cellsOf 42) (List.drop 1 [c0, c1, c2, c3])) = some x1 := hf 1 _ rfl
      rw [cLG] at f1
      have w1 := weights_field Tryd.underlying46 hw (i := 1) (d := x1.1) rfl rfl
      have f2 : DataW.trod enc Tryd.prog W 0 sp held m 43 (List.take (Tryd.prog.cellsOf 43) (List.drop 2 [c0, c1, c2, c3])) = some x2 := hf 2 _ rfl
      rw [cLT'] at f2
      have w2 := weights_field Tryd.underlying46 hw (i := 2) (d := x2.1) rfl rfl
      have f3 : DataW.trod enc Tryd.prog W 0 sp held m 44 (List.take (Tryd.prog.cellsOf 44) (List.drop 3 [c0, c1, c2, c3])) = some x3 := hf 3 _ rfl
      rw [cLD] at f3
      have w3 := weights_field Tryd.underlying46 hw (i := 3) (d := x3.1) rfl rfl
      obtain ⟨a0, e0⟩ := int_open Tryd.underlying3 f0
      obtain ⟨A1, d1, l1, e1, hl1, hC1, hQ1, hw1⟩ := row_open kG Tryd.underlying42 cG (fun g : SG => nameOk g.f0 ∧ g.f3.length ≤ 140737488351232) f1 w1 (fun n cs' y hn hy hv => by obtain ⟨z, A3, c3, rfl, h3, l3, hQ⟩ := gp_open n cs' y hy hv; exact ⟨z, k99_mk W z l3 h3, hQ⟩)
      obtain ⟨A2, d2, l2, e2, hl2, hC2, hQ2, hw2⟩ := row_open kT Tryd.underlying43 cGt (fun g : ST => nameOk g.f0) f2 w2 (fun n cs' y hn hy hv => by obtain ⟨z, rfl, hQ⟩ := tp_open n cs' y hy hv; exact ⟨z, k105_mk W z, hQ⟩)
      obtain ⟨A3, d3, l3, e3, hl3, hC3, hQ3, hw3⟩ := row_open kD Tryd.underlying44 cD wellD f3 w3 (fun n cs' y hn hy hv => by obtain ⟨z, A2, A5, c2, c5, rfl, h2, h5, l2, l5, hQ⟩ := dp_open n cs' y hy hv; exact ⟨z, k49_mk W z l2 h2 l5 h5, hQ⟩)
      obtain rfl := (List.cons.inj e0).1
      obtain rfl := (List.cons.inj e1).1
      obtain rfl := (List.cons.inj e2).1
      obtain rfl := (List.cons.inj e3).1
      exact ⟨⟨a0, l1, l2, l3⟩, A1, A2, A3, d1, d2, d3, rfl, hC1, hC2, hC3, hl1, hl2, hl3, ⟨hQ1, hQ2, hQ3, lenR hw1 (by rw [bG]; decide), lenR hw2 (by rw [bGt]; decide), lenR hw3 (by rw [bD]; decide)⟩⟩
end
end Go.Proofs.YtgkhpecllhiidaaDoor.A
namespace Go.Proofs.YtgkhpecllhiidaaDoor.A
open Go.RowKit Go.Shelf Go.Proofs.YtgkhpecllhiidaaDoor.As Go.Proofs.YtgkhpecllhiidaaDoorW.PrintWords Go.Proofs.YtgkhpecllhiidaaDoorW.PrintLast Go.Proofs.YtgkhpecllhiidaaDoorW.PrintMore
def sizeDs : List SD → Nat
  | [] => 0
  | d :: l => sizeSs d.f5 + sizeDs l
theorem sizes_nodes : ∀ l : List SD, sizes (nodes l) = sizeDs l
  | [] => rfl
  | d :: l => by
    have : nodes (d :: l) = d.f5.map .st ++ nodes l := by unfold nodes bodies; rw [List.flatMap_cons, List.map_append]
    rw [this, sizes_append, sizes_st, sizes_nodes l]; rfl
theorem rdD_nat (l : List SD) (i : Nat) (h : i < l.length) : rd_T49 l (i : Int) = l[i] := by
  unfold rd_T49; rw [Int.toNat_natCast, List.getD_eq_getElem?_getD, List.getElem?_eq_getElem h]; rfl
theorem deepS_kids (s : SS) : deepSs s.f8 < deepS s ∧ deepSs s.f9 < deepS s := by cases s; rw [deepS]; simp only []; omega
theorem sizeS_mem {l : List SS} {s : SS} (h : s ∈ l) : sizeS s ≤ sizeSs l := by
  induction l with
  | nil => cases h
  | cons x l ih =>
    rw [sizeSs]
    rcases List.mem_cons.1 h with rfl | h
    · omega
    · have := ih h; omega
theorem sizeS_pos (s : SS) : 1 ≤ sizeS s := by obtain ⟨_, _, _, _, _, _, _, _, _, _⟩ := s; rw [sizeS]; omega
theorem len_le_sizeSs : ∀ l : List SS, l.length ≤ sizeSs l
  | [] => by simp
  | s :: l => by rw [sizeSs, List.length_cons]; have := sizeS_pos s; have := len_le_sizeSs l; omega
theorem sizeDs_mem {l : List SD} {d : SD} (h : d ∈ l) : sizeSs d.f5 ≤ sizeDs l := by
  induction l with
  | nil => cases h
  | cons x l ih =>
    rw [sizeDs]
    rcases List.mem_cons.1 h with rfl | h
    · omega
    · have := ih h; omega
end Go.Proofs.YtgkhpecllhiidaaDoor.A
namespace Go.Proofs.YtgkhpecllhiidaaDoor.A
open Go.RowKit Go.Shelf Go.Proofs.YtgkhpecllhiidaaDoor.As Go.Proofs.YtgkhpecllhiidaaDoorW.PrintWords Go.Proofs.YtgkhpecllhiidaaDoorW.PrintLast Go.Proofs.YtgkhpecllhiidaaDoorW.PrintMore
theorem nodes_cons (d : SD) (l : List SD) : nodes (d :: l) = d.f5.map .st ++ nodes l := by unfold nodes bodies; rw [List.flatMap_cons, List.map_append]
mutual
theorem deep_le_S : ∀ s : SS, deepS s ≤ sizeS s
  | ⟨_, _, _, _, _, _, i, x, t, e⟩ => by rw [deepS, sizeS]; have := deep_le_Es i; have := deep_le_Es x; have := deep_le_Ss t; have := deep_le_Ss e; omega
theorem deep_le_Ss : ∀ l : List SS, deepSs l ≤ sizeSs l
  | [] => by simp [deepSs, sizeSs]
  | e :: l => by rw [deepSs, sizeSs]; have := deep_le_S e; have := deep_le_Ss l; omega
end
theorem bodies_len : ∀ l : List SD, (bodies l).length ≤ sizeDs l
  | [] => Nat.le_refl _
  | d :: l => by
    have : bodies (d :: l) = d.f5 ++ bodies l := by unfold bodies; rw [List.flatMap_cons]
    rw [this, List.length_append, sizeDs]
    have := len_le_sizeSs d.f5
    have := bodies_len l
    omega
theorem mem_nodes {l : List SD} {x : Nd} (h : x ∈ nodes l) : ∃ d ∈ l, ∃ s ∈ d.f5, x = .st s := by
  unfold nodes bodies at h
  obtain ⟨s, hs, rfl⟩ := List.mem_map.1 h
  obtain ⟨d, hd, hs⟩ := List.mem_flatMap.1 hs
  exact ⟨d, hd, s, hs, rfl⟩
theorem fit_light (p : SP) (hw : wellP p) (hs : sizeDs p.f3 ≤ 4000) : fitP p = true := by
  obtain ⟨h1, h2, h3, _, _, _⟩ := hw
  unfold fitP okT
  simp only [Bool.and_eq_true, decide_eq_true_eq, List.all_eq_true]
  refine ⟨?_, ?_, ?_, fun g hg => (h1 g hg).1, fun g hg => h2 g hg, fun d hd => ⟨(h3 d hd).1, fun q hq => (h3 d hd).2.1 q hq⟩⟩
  · have := bodies_len p.f3; omega
  · rw [sizes_nodes]; omega
  · intro x hx
    obtain ⟨d, hd, s, hsm, rfl⟩ := mem_nodes hx
    have a1 := sizeDs_mem hd
    have a2 := sizeS_mem hsm
    have a3 := deep_le_S s
    refine fit_of (by show sizeS s < _; omega) (by show deepS s < _; omega) (((h3 d hd).2.2.2.2 s hsm).1)
end Go.Proofs.YtgkhpecllhiidaaDoor.A
