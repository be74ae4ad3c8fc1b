/- Package ast: expr. -/
import Derived.Test.YtnjnadlgndjnbaaDoorYAc
import Derived.Shelf.RegionOpen
set_option linter.unusedVariables false
set_option linter.unusedSimpArgs false
namespace Go.Proofs.YtnjnadlgndjnbaaDoor.A
open Go.RowKit Go.Shelf Go.Proofs.YtnjnadlgndjnbaaDoor.As Go.Proofs.YtnjnadlgndjnbaaDoorW.PrintWords Go.Proofs.YtnjnadlgndjnbaaDoorW.PrintLast Go.Proofs.YtnjnadlgndjnbaaDoorW.PrintMore
theorem name_world {P : Program} {c : Code} {Q : Exit → Act → World → Prop} {a : Act} {w : World} (h : ∀ W, W = w → Code.wp P c Q a W) : Code.wp P c Q a w := h w rfl
structure EC (w : World) (a : Addr) (f0 f1 f2 f3 : Int) (f4 : ByteArray) (A : Option Addr) (n c : Nat) : Prop where
  c0 : w.cell? a = some (.int .i64 f0)
  c1 : w.cell? ⟨a.block, a.off + 1, none⟩ = some (.int .i64 f1)
  c2 : w.cell? ⟨a.block, a.off + 2, none⟩ = some (.int .i64 f2)
  c3 : w.cell? ⟨a.block, a.off + 3, none⟩ = some (.int .u32 f3)
  c4 : w.cell? ⟨a.block, a.off + 4, none⟩ = some (.string f4)
  c5 : w.cell? ⟨a.block, a.off + 5, none⟩ = some (.slice A n c)
theorem EC.below {w W : World} {a : Addr} {f0 f1 f2 f3 : Int} {f4 : ByteArray} {A : Option Addr} {n c : Nat} (h : EC w a f0 f1 f2 f3 f4 A n c) (hb : Below w.heap.size w W) : EC W a f0 f1 f2 f3 f4 A n c :=
  ⟨pw_cell_below hb h.c0, pw_cell_below hb h.c1, pw_cell_below hb h.c2, pw_cell_below hb h.c3, pw_cell_below hb h.c4, pw_cell_below hb h.c5⟩
def WB (W : World) (b : Nat) (f0 f1 f2 f3 : Int) (f4 : ByteArray) : Prop := W.heap[b]? = some (.cells #[.int .i64 f0, .int .i64 f1, .int .i64 f2, .int .u32 f3, .string f4, .slice none 0 0] 26 (0, 0))
theorem WB.cells {W : World} {b : Nat} {f0 f1 f2 f3 : Int} {f4 : ByteArray} (h : WB W b f0 f1 f2 f3 f4) :
    W.cell? ⟨b, 0, none⟩ = some (.int .i64 f0) ∧ W.cell? ⟨b, 1, none⟩ = some (.int .i64 f1) ∧ W.cell? ⟨b, 2, none⟩ = some (.int .i64 f2) ∧ W.cell? ⟨b, 3, none⟩ = some (.int .u32 f3) ∧ W.cell? ⟨b, 4, none⟩ = some (.string f4) ∧ W.cell? ⟨b, 5, none⟩ = some (.slice none 0 0) ∧
    W.frozen? ⟨b, 0, none⟩ = false ∧ W.frozen? ⟨b, 1, none⟩ = false ∧ W.frozen? ⟨b, 2, none⟩ = false ∧ W.frozen? ⟨b, 3, none⟩ = false ∧ W.frozen? ⟨b, 4, none⟩ = false :=
  ⟨(blk_cell h 0).trans rfl, (blk_cell h 1).trans rfl, (blk_cell h 2).trans rfl, (blk_cell h 3).trans rfl, (blk_cell h 4).trans rfl, (blk_cell h 5).trans rfl, blk_frozen h 0, blk_frozen h 1, blk_frozen h 2, blk_frozen h 3, blk_frozen h 4⟩
theorem name_val (s : ByteArray) (b : Bool) (h : nameB s = b) (w : World) (hs : s.size ≤ 140737488351232) (hG : Keys w) : Calls Tryd.prog 48 #[.string s] w fun e w' => e = .returned (.bool b) ∧ Below w.heap.size w w' := by rw [← h]; exact name_any s w hs hG
theorem operator_val (op : Int) (b : Bool) (h : opB op = b) (w : World) : Calls Tryd.prog 89 #[.int .i64 op] w fun e w' => e = .returned (.bool b) ∧ w' = w := by rw [← h]; exact operator_any op w
theorem below_of {B : Nat} {W V V' : World} (h : Below V.heap.size V V') (hs : B ≤ W.heap.size) (e : W = W ∧ V.os = W.os ∧ V.tape = W.tape ∧ V.output = W.output ∧ V.heap = W.heap) : Below B W V' := by
  obtain ⟨_, e1, e2, e3, e4⟩ := e
  exact ⟨h.os.trans e1, h.tape.trans e2, h.output.trans e3, by rw [← e4]; exact h.size, fun k hk => by rw [← e4]; exact h.block k (by rw [e4]; omega)⟩
theorem wb_of {W V V' : World} {b : Nat} {f0 f1 f2 f3 : Int} {f4 : ByteArray} (hW : WB W b f0 f1 f2 f3 f4) (h : Below V.heap.size V V') (e : V.heap = W.heap) : WB V' b f0 f1 f2 f3 f4 := by
  have hlt := (Array.getElem?_eq_some_iff.1 hW).1
  exact (h.block b (by rw [e]; exact hlt)).trans (by rw [e]; exact hW)
theorem same_val (a0 a1 a2 a3 b0 b1 b2 b3 : Int) (a4 b4 : ByteArray) (A : Option Addr) (n c : Nat) (sb : Bool) (h : (a0 == b0 && (a1 == b1 && (a2 == b2 && (a3 == b3 && a4.toList == b4.toList)))) = sb) (w : World) :
    Calls Tryd.prog 87 #[.agg #[.int .i64 a0, .int .i64 a1, .int .i64 a2, .int .u32 a3, .string a4, .slice A n c], .agg #[.int .i64 b0, .int .i64 b1, .int .i64 b2, .int .u32 b3, .string b4, .slice none 0 0]] w fun e w' => e = .returned (.bool sb) ∧ Below w.heap.size w w' := by rw [← h]; exact same_vals a0 a1 a2 a3 b0 b1 b2 b3 a4 b4 A none n 0 c 0 w
set_option maxRecDepth 100000 in
set_option maxHeartbeats 2000000 in
theorem expr_1 (a : Addr) (f1 f2 f3 : Int) (f4 : ByteArray) (A : Option Addr) (n c : Nat) (w : World) (hn : n ≤ 9223372036854775807) (hs : f4.size ≤ 140737488351232) (hG : Keys w) (hE : EC w a 1 f1 f2 f3 f4 A n c) (lb sb : Bool) (hlb : ((n : Int) == 0) = lb) (hsb : Lx.Hd ((1 == 1 && (f1 == 0 && (f2 == 0 && (f3 == f3 && f4.toList == (⟨#[]⟩ : ByteArray).toList)))) = sb)) :
    Calls Tryd.prog 73 #[.pointer (some a)] w fun e w' => e = .returned (.bool (lb && sb)) ∧ Below w.heap.size w w' := by
  have hlt := lt_of_cell hE.c0
  cases lb
  · obtain ⟨c0, c1, c2, c3, c4, c5⟩ := id hE
    go_enter Tryd.func73, Tryd.ntmps73
    go_upto_region 3 with (fail)
    refine name_world fun W1 hW1 => ?_
    have hB1 : Below w.heap.size w W1 := by rw [hW1]; exact (Below.refl _ w).alloc (Nat.le_refl _) _
    have hb1 : WB W1 w.heap.size 1 0 0 0 ⟨#[]⟩ := by rw [hW1]; exact World.alloc_heap_new _ _
    clear hW1 c0 c1 c2 c3 c4 c5
    obtain ⟨c0, c1, c2, c3, c4, c5⟩ := hE.below hB1
    obtain ⟨k0, k1, k2, k3, k4, k5, l0, l1, l2, l3, l4⟩ := hb1.cells
    go_upto_region 6 with (fail)
    refine name_world fun W2 hW2 => ?_
    have hB2 : Below w.heap.size w W2 := by rw [hW2]; exact hB1.setCell (p := ⟨w.heap.size, 3, none⟩) (Nat.le_refl _) _
    have hb2 : WB W2 w.heap.size 1 0 0 f3 ⟨#[]⟩ := by rw [hW2]; exact blk_put hb1 3 _ rfl
    clear hW2 c0 c1 c2 c3 c4 c5 k0 k1 k2 k3 k4 k5 l0 l1 l2 l3 l4
    obtain ⟨c0, c1, c2, c3, c4, c5⟩ := hE.below hB2
    obtain ⟨k0, k1, k2, k3, k4, k5, l0, l1, l2, l3, l4⟩ := hb2.cells
    have HB2 := Lx.Hd.mk hB2
    have Hb2 := Lx.Hd.mk hb2
    have HG := Lx.Hd.mk (Keys.below hG hB2)
    have HE := Lx.Hd.mk hE
    clear hB1 hb1 hB2 hb2 hE hG
    go_quiet (fail)
    go_wp2
    go_ret
    exact ⟨rfl, HB2.out.trans ⟨rfl, rfl, rfl, Nat.le_refl _, fun _ _ => rfl⟩⟩
  · obtain ⟨c0, c1, c2, c3, c4, c5⟩ := id hE
    go_enter Tryd.func73, Tryd.ntmps73
    go_upto_region 3 with (fail)
    refine name_world fun W1 hW1 => ?_
    have hB1 : Below w.heap.size w W1 := by rw [hW1]; exact (Below.refl _ w).alloc (Nat.le_refl _) _
    have hb1 : WB W1 w.heap.size 1 0 0 0 ⟨#[]⟩ := by rw [hW1]; exact World.alloc_heap_new _ _
    clear hW1 c0 c1 c2 c3 c4 c5
    obtain ⟨c0, c1, c2, c3, c4, c5⟩ := hE.below hB1
    obtain ⟨k0, k1, k2, k3, k4, k5, l0, l1, l2, l3, l4⟩ := hb1.cells
    go_upto_region 6 with (fail)
    refine name_world fun W2 hW2 => ?_
    have hB2 : Below w.heap.size w W2 := by rw [hW2]; exact hB1.setCell (p := ⟨w.heap.size, 3, none⟩) (Nat.le_refl _) _
    have hb2 : WB W2 w.heap.size 1 0 0 f3 ⟨#[]⟩ := by rw [hW2]; exact blk_put hb1 3 _ rfl
    clear hW2 c0 c1 c2 c3 c4 c5 k0 k1 k2 k3 k4 k5 l0 l1 l2 l3 l4
    obtain ⟨c0, c1, c2, c3, c4, c5⟩ := hE.below hB2
    obtain ⟨k0, k1, k2, k3, k4, k5, l0, l1, l2, l3, l4⟩ := hb2.cells
    have HB2 := Lx.Hd.mk hB2
    have Hb2 := Lx.Hd.mk hb2
    have HG := Lx.Hd.mk (Keys.below hG hB2)
    have HE := Lx.Hd.mk hE
    clear hB1 hb1 hB2 hb2 hE hG
    first | (go_region_with (go_at_call 87; refine (same_val 1 f1 f2 f3 1 0 0 f3 f4 ⟨#[]⟩ A n c sb hsb.out _).mono ?_; rintro e w9 ⟨rfl, hb9⟩; have HB9 := Lx.Hd.mk hb9; clear hb9)) | fail
    all_goals (go_wp2; go_ret; exact ⟨rfl, HB2.out.trans (below_of (W := W2) HB9.out HB2.out.size ⟨rfl, rfl, rfl, rfl, rfl⟩)⟩)
end Go.Proofs.YtnjnadlgndjnbaaDoor.A
