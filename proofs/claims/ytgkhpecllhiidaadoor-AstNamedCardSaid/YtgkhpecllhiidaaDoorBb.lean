/- The closures of AstNamed: a call and an index of what was captured. -/
import Derived.Test.YtgkhpecllhiidaaDoorAg
set_option linter.unusedVariables false
set_option linter.unusedSimpArgs false
namespace Go.Proofs.YtgkhpecllhiidaaDoor.A
open Go.RowKit Go.Shelf Go.Proofs.YtgkhpecllhiidaaDoor.As Go.Proofs.YtgkhpecllhiidaaDoorW.PrintWords Go.Proofs.YtgkhpecllhiidaaDoorW.PrintLast Go.Proofs.YtgkhpecllhiidaaDoorW.PrintMore

/-- A box that holds an expression. -/
def BoxE (W : World) (B : Nat) (e : SE) : Prop := ∃ (A : Option Addr) (c : Nat), e.f5.length ≤ c ∧ kE.C W A e.f5.length e.f5 ∧ W.heap[B]? = some (.cells #[.int .i64 e.f0, .int .i64 e.f1, .int .i64 e.f2, .int .u32 e.f3, .string e.f4, .slice A e.f5.length c] 25 (0, 0))
theorem heap_kept {w w' : World} {B : Nat} {o : Obj} (hb : Below w.heap.size w w') (h : w.heap[B]? = some o) : w'.heap[B]? = some o := (hb.block B (Array.getElem?_eq_some_iff.1 h).1).trans h
theorem BoxE.below {w w' : World} {B : Nat} {e : SE} (h : BoxE w B e) (hb : Below w.heap.size w w') : BoxE w' B e := by
  obtain ⟨A, c, h1, h2, h3⟩ := h
  exact ⟨A, c, h1, Kd.C_below h2 hb, heap_kept hb h3⟩
theorem BoxE.cells {W : World} {B : Nat} {e : SE} (h : BoxE W B e) : ∃ (A : Option Addr) (c : Nat), e.f5.length ≤ c ∧ kE.C W A e.f5.length e.f5 ∧ W.cell? ⟨B, 0, none⟩ = some (.int .i64 e.f0) ∧ W.cell? ⟨B, 1, none⟩ = some (.int .i64 e.f1) ∧ W.cell? ⟨B, 2, none⟩ = some (.int .i64 e.f2) ∧ W.cell? ⟨B, 3, none⟩ = some (.int .u32 e.f3) ∧ W.cell? ⟨B, 4, none⟩ = some (.string e.f4) ∧ W.cell? ⟨B, 5, none⟩ = some (.slice A e.f5.length c) := by
  obtain ⟨A, c, h1, h2, h3⟩ := h
  refine ⟨A, c, h1, h2, ?_, ?_, ?_, ?_, ?_, ?_⟩ <;> (unfold World.cell?; rw [h3]; rfl)
/-- Two expressions that have just been laid in line. -/
theorem row_two {W : World} {B : Nat} {x y : SE} {A1 A2 : Option Addr} {c1 c2 : Nat} (l1 : x.f5.length ≤ c1) (l2 : y.f5.length ≤ c2) (h1 : kE.C W A1 x.f5.length x.f5) (h2 : kE.C W A2 y.f5.length y.f5)
    (hh : W.heap[B]? = some (.cells #[.int .i64 x.f0, .int .i64 x.f1, .int .i64 x.f2, .int .u32 x.f3, .string x.f4, .slice A1 x.f5.length c1, .int .i64 y.f0, .int .i64 y.f1, .int .i64 y.f2, .int .u32 y.f3, .string y.f4, .slice A2 y.f5.length c2] 25 (0, 0))) : kE.C W (some ⟨B, 0, none⟩) 2 [x, y] := by
  refine ⟨rfl, by omega, fun _ => ⟨_, rfl, fun j p hj => ?_⟩⟩
  have hj2 : j < 2 := by have := (List.getElem?_eq_some_iff.1 hj).1; simpa using this
  have : j = 0 ∨ j = 1 := by omega
  rcases this with rfl | rfl
  · obtain rfl := Option.some.inj hj
    refine ⟨_, rfl, k25_mk W x l1 h1, fun i u hi => ?_⟩
    have hi6 : i < 6 := by have := (List.getElem?_eq_some_iff.1 hi).1; simpa using this
    rw [add_plain]
    have : i = 0 ∨ i = 1 ∨ i = 2 ∨ i = 3 ∨ i = 4 ∨ i = 5 := by omega
    rcases this with rfl | rfl | rfl | rfl | rfl | rfl <;> (obtain rfl := Option.some.inj hi; unfold World.cell?; rw [show (0 * kE.sz) = 0 from Nat.zero_mul _]; rw [hh]; rfl)
  · obtain rfl := Option.some.inj hj
    refine ⟨_, rfl, k25_mk W y l2 h2, fun i u hi => ?_⟩
    have hi6 : i < 6 := by have := (List.getElem?_eq_some_iff.1 hi).1; simpa using this
    rw [add_plain]
    have : i = 0 ∨ i = 1 ∨ i = 2 ∨ i = 3 ∨ i = 4 ∨ i = 5 := by omega
    rcases this with rfl | rfl | rfl | rfl | rfl | rfl <;> (obtain rfl := Option.some.inj hi; unfold World.cell?; rw [show (1 * kE.sz) = 6 from rfl]; rw [hh]; rfl)
theorem row_one {W : World} {B : Nat} {x : SE} {A1 : Option Addr} {c1 : Nat} (l1 : x.f5.length ≤ c1) (h1 : kE.C W A1 x.f5.length x.f5)
    (hh : W.heap[B]? = some (.cells #[.int .i64 x.f0, .int .i64 x.f1, .int .i64 x.f2, .int .u32 x.f3, .string x.f4, .slice A1 x.f5.length c1] 25 (0, 0))) : kE.C W (some ⟨B, 0, none⟩) 1 [x] := by
  refine ⟨rfl, by omega, fun _ => ⟨_, rfl, fun j p hj => ?_⟩⟩
  have hj2 : j < 1 := by have := (List.getElem?_eq_some_iff.1 hj).1; simpa using this
  obtain rfl : j = 0 := by omega
  obtain rfl := Option.some.inj hj
  refine ⟨_, rfl, k25_mk W x l1 h1, fun i u hi => ?_⟩
  have hi6 : i < 6 := by have := (List.getElem?_eq_some_iff.1 hi).1; simpa using this
  rw [add_plain]
  have : i = 0 ∨ i = 1 ∨ i = 2 ∨ i = 3 ∨ i = 4 ∨ i = 5 := by omega
  rcases this with rfl | rfl | rfl | rfl | rfl | rfl <;> (obtain rfl := Option.some.inj hi; unfold World.cell?; rw [show (0 * kE.sz) = 0 from Nat.zero_mul _]; rw [hh]; rfl)
theorem put6 {W : World} {g : Nat} {t : TypeId} {a0 a1 a2 a3 a4 a5 b0 b1 b2 b3 b4 b5 : Value} (h : W.heap[g]? = some (.cells #[a0, a1, a2, a3, a4, a5] t (0, 0))) :
    ((((((W.setCell ⟨g, 0, none⟩ b0).setCell ⟨g, 1, none⟩ b1).setCell ⟨g, 2, none⟩ b2).setCell ⟨g, 3, none⟩ b3).setCell ⟨g, 4, none⟩ b4).setCell ⟨g, 5, none⟩ b5).heap[g]? = some (.cells #[b0, b1, b2, b3, b4, b5] t (0, 0)) :=
  blk_put (blk_put (blk_put (blk_put (blk_put (blk_put h 0 b0 rfl) 1 b1 rfl) 2 b2 rfl) 3 b3 rfl) 4 b4 rfl) 5 b5 rfl
set_option maxRecDepth 100000 in
set_option maxHeartbeats 4000000 in
theorem clos_call (B C : Nat) (x y : SE) (g : ByteArray) (W : World) (hB : BoxE W B x) (hC : BoxE W C y) :
    Calls Tryd.prog 19 #[.string g, .pointer (some ⟨B, 0, none⟩), .pointer (some ⟨C, 0, none⟩)] W fun r W' => ∃ A, r = .returned (.agg #[.int .i64 4, .int .i64 0, .int .i64 0, .int .u32 0, .string g, .slice A 2 2]) ∧ kE.C W' A 2 [x, y] ∧ Below W.heap.size W W' := by
  obtain ⟨A1, c1, l1, k1, u0, u1, u2, u3, u4, u5⟩ := hB.cells
  obtain ⟨A2, c2, l2, k2, v0, v1, v2, v3, v4, v5⟩ := hC.cells
  have HK := Lx.Hd.mk k1
  clear hB k1
  have HL := Lx.Hd.mk k2
  clear hC k2
  go_enter Tryd.func19, Tryd.ntmps19
  go_upto_region 1 with (fail)
  refine name_world fun W1 hW1 => ?_
  have hs1 : W1.heap.size = W.heap.size + 1 := by rw [hW1]; simp
  have hB1 : Below W.heap.size W W1 := by rw [hW1]; exact (Below.refl _ W).alloc (Nat.le_refl _) _
  have hn : W1.heap[W.heap.size]? = some (.cells #[.int .i64 0, .int .i64 0, .int .i64 0, .int .u32 0, .string ByteArray.empty, .slice none 0 0] 25 (0, 0)) := by rw [hW1]; exact World.alloc_heap_new W _
  have hc : ∀ j u, (#[.int .i64 0, .int .i64 0, .int .i64 0, .int .u32 0, .string ByteArray.empty, .slice none 0 0] : Array Value)[j]? = some u → W1.cell? ⟨W.heap.size, j, none⟩ = some u := fun j u h => by unfold World.cell?; rw [hn]; exact h
  have n0 := hc 0 _ rfl; have n1 := hc 1 _ rfl; have n2 := hc 2 _ rfl; have n3 := hc 3 _ rfl; have n4 := hc 4 _ rfl; have n5 := hc 5 _ rfl
  have hf : ∀ j, W1.frozen? ⟨W.heap.size, j, none⟩ = false := fun j => by unfold World.frozen?; rw [hn]; rfl
  have z0 := hf 0; have z1 := hf 1; have z2 := hf 2; have z3 := hf 3; have z4 := hf 4; have z5 := hf 5
  have p0 := pw_cell_below hB1 u0; have p1 := pw_cell_below hB1 u1; have p2 := pw_cell_below hB1 u2; have p3 := pw_cell_below hB1 u3; have p4 := pw_cell_below hB1 u4; have p5 := pw_cell_below hB1 u5
  clear u0 u1 u2 u3 u4 u5
  have q0 := pw_cell_below hB1 v0; have q1 := pw_cell_below hB1 v1; have q2 := pw_cell_below hB1 v2; have q3 := pw_cell_below hB1 v3; have q4 := pw_cell_below hB1 v4; have q5 := pw_cell_below hB1 v5
  clear v0 v1 v2 v3 v4 v5
  have HB1 := Lx.Hd.mk hB1
  have HN := Lx.Hd.mk hn
  clear hc hf hn hW1 hB1
  go_wp2
  have h2 := put6 (b0 := .int .i64 4) (b1 := .int .i64 0) (b2 := .int .i64 0) (b3 := .int .u32 0) (b4 := .string g) (b5 := .slice (some ⟨W.heap.size + 1, 0, none⟩) 2 2) HN.out
  have hb2 : Below W.heap.size W ((((((W1.setCell ⟨W.heap.size, 0, none⟩ (.int .i64 4)).setCell ⟨W.heap.size, 1, none⟩ (.int .i64 0)).setCell ⟨W.heap.size, 2, none⟩ (.int .i64 0)).setCell ⟨W.heap.size, 3, none⟩ (.int .u32 0)).setCell ⟨W.heap.size, 4, none⟩ (.string g)).setCell ⟨W.heap.size, 5, none⟩ (.slice (some ⟨W.heap.size + 1, 0, none⟩) 2 2)) := (((((HB1.out.setCell (Nat.le_refl _) _).setCell (Nat.le_refl _) _).setCell (Nat.le_refl _) _).setCell (Nat.le_refl _) _).setCell (Nat.le_refl _) _).setCell (Nat.le_refl _) _
  have hs2 : ((((((W1.setCell ⟨W.heap.size, 0, none⟩ (.int .i64 4)).setCell ⟨W.heap.size, 1, none⟩ (.int .i64 0)).setCell ⟨W.heap.size, 2, none⟩ (.int .i64 0)).setCell ⟨W.heap.size, 3, none⟩ (.int .u32 0)).setCell ⟨W.heap.size, 4, none⟩ (.string g)).setCell ⟨W.heap.size, 5, none⟩ (.slice (some ⟨W.heap.size + 1, 0, none⟩) 2 2)).heap.size = W.heap.size + 1 := by simp [World.setCell, hs1]
  generalize ((((((W1.setCell ⟨W.heap.size, 0, none⟩ (.int .i64 4)).setCell ⟨W.heap.size, 1, none⟩ (.int .i64 0)).setCell ⟨W.heap.size, 2, none⟩ (.int .i64 0)).setCell ⟨W.heap.size, 3, none⟩ (.int .u32 0)).setCell ⟨W.heap.size, 4, none⟩ (.string g)).setCell ⟨W.heap.size, 5, none⟩ (.slice (some ⟨W.heap.size + 1, 0, none⟩) 2 2)) = W2 at *
  have hb3 : Below W.heap.size W (W2.alloc (.cells #[.int .i64 x.f0, .int .i64 x.f1, .int .i64 x.f2, .int .u32 x.f3, .string x.f4, .slice A1 x.f5.length c1, .int .i64 y.f0, .int .i64 y.f1, .int .i64 y.f2, .int .u32 y.f3, .string y.f4, .slice A2 y.f5.length c2] 25)) := hb2.alloc (by rw [hs2]; omega) _
  have hh : (W2.alloc (.cells #[.int .i64 x.f0, .int .i64 x.f1, .int .i64 x.f2, .int .u32 x.f3, .string x.f4, .slice A1 x.f5.length c1, .int .i64 y.f0, .int .i64 y.f1, .int .i64 y.f2, .int .u32 y.f3, .string y.f4, .slice A2 y.f5.length c2] 25)).heap[W.heap.size + 1]? = some (.cells #[.int .i64 x.f0, .int .i64 x.f1, .int .i64 x.f2, .int .u32 x.f3, .string x.f4, .slice A1 x.f5.length c1, .int .i64 y.f0, .int .i64 y.f1, .int .i64 y.f2, .int .u32 y.f3, .string y.f4, .slice A2 y.f5.length c2] 25 (0, 0)) := by rw [← hs2]; exact World.alloc_heap_new W2 _
  refine bodyPost_ret (results_cell_row rfl _ _ W.heap.size 25 #[.int .i64 4, .int .i64 0, .int .i64 0, .int .u32 0, .string g, .slice (some ⟨W.heap.size + 1, 0, none⟩) 2 2] (0, 0) _ rfl (blk_alloc h2 _) Tryd.underlying25 rfl (by kernel_rfl)) rfl ?_
  exact ⟨_, rfl, row_two l1 l2 (Kd.C_below HK.out hb3) (Kd.C_below HL.out hb3) hh, hb3⟩
set_option maxRecDepth 100000 in
set_option maxHeartbeats 4000000 in
theorem clos_index (B : Nat) (x : SE) (g : ByteArray) (W : World) (hB : BoxE W B x) :
    Calls Tryd.prog 20 #[.string g, .pointer (some ⟨B, 0, none⟩)] W fun r W' => ∃ A, r = .returned (.agg #[.int .i64 3, .int .i64 0, .int .i64 0, .int .u32 0, .string g, .slice A 1 1]) ∧ kE.C W' A 1 [x] ∧ Below W.heap.size W W' := by
  obtain ⟨A1, c1, l1, k1, u0, u1, u2, u3, u4, u5⟩ := hB.cells
  have HK := Lx.Hd.mk k1
  clear hB k1
  go_enter Tryd.func20, Tryd.ntmps20
  go_upto_region 1 with (fail)
  refine name_world fun W1 hW1 => ?_
  have hs1 : W1.heap.size = W.heap.size + 1 := by rw [hW1]; simp
  have hB1 : Below W.heap.size W W1 := by rw [hW1]; exact (Below.refl _ W).alloc (Nat.le_refl _) _
  have hn : W1.heap[W.heap.size]? = some (.cells #[.int .i64 0, .int .i64 0, .int .i64 0, .int .u32 0, .string ByteArray.empty, .slice none 0 0] 25 (0, 0)) := by rw [hW1]; exact World.alloc_heap_new W _
  have hc : ∀ j u, (#[.int .i64 0, .int .i64 0, .int .i64 0, .int .u32 0, .string ByteArray.empty, .slice none 0 0] : Array Value)[j]? = some u → W1.cell? ⟨W.heap.size, j, none⟩ = some u := fun j u h => by unfold World.cell?; rw [hn]; exact h
  have n0 := hc 0 _ rfl; have n1 := hc 1 _ rfl; have n2 := hc 2 _ rfl; have n3 := hc 3 _ rfl; have n4 := hc 4 _ rfl; have n5 := hc 5 _ rfl
  have hf : ∀ j, W1.frozen? ⟨W.heap.size, j, none⟩ = false := fun j => by unfold World.frozen?; rw [hn]; rfl
  have z0 := hf 0; have z1 := hf 1; have z2 := hf 2; have z3 := hf 3; have z4 := hf 4; have z5 := hf 5
  have p0 := pw_cell_below hB1 u0; have p1 := pw_cell_below hB1 u1; have p2 := pw_cell_below hB1 u2; have p3 := pw_cell_below hB1 u3; have p4 := pw_cell_below hB1 u4; have p5 := pw_cell_below hB1 u5
  clear u0 u1 u2 u3 u4 u5
  have HB1 := Lx.Hd.mk hB1
  have HN := Lx.Hd.mk hn
  clear hc hf hn hW1 hB1
  go_wp2
  have h2 := put6 (b0 := .int .i64 3) (b1 := .int .i64 0) (b2 := .int .i64 0) (b3 := .int .u32 0) (b4 := .string g) (b5 := .slice (some ⟨W.heap.size + 1, 0, none⟩) 1 1) HN.out
  have hb2 : Below W.heap.size W ((((((W1.setCell ⟨W.heap.size, 0, none⟩ (.int .i64 3)).setCell ⟨W.heap.size, 1, none⟩ (.int .i64 0)).setCell ⟨W.heap.size, 2, none⟩ (.int .i64 0)).setCell ⟨W.heap.size, 3, none⟩ (.int .u32 0)).setCell ⟨W.heap.size, 4, none⟩ (.string g)).setCell ⟨W.heap.size, 5, none⟩ (.slice (some ⟨W.heap.size + 1, 0, none⟩) 1 1)) := (((((HB1.out.setCell (Nat.le_refl _) _).setCell (Nat.le_refl _) _).setCell (Nat.le_refl _) _).setCell (Nat.le_refl _) _).setCell (Nat.le_refl _) _).setCell (Nat.le_refl _) _
  have hs2 : ((((((W1.setCell ⟨W.heap.size, 0, none⟩ (.int .i64 3)).setCell ⟨W.heap.size, 1, none⟩ (.int .i64 0)).setCell ⟨W.heap.size, 2, none⟩ (.int .i64 0)).setCell ⟨W.heap.size, 3, none⟩ (.int .u32 0)).setCell ⟨W.heap.size, 4, none⟩ (.string g)).setCell ⟨W.heap.size, 5, none⟩ (.slice (some ⟨W.heap.size + 1, 0, none⟩) 1 1)).heap.size = W.heap.size + 1 := by simp [World.setCell, hs1]
  generalize ((((((W1.setCell ⟨W.heap.size, 0, none⟩ (.int .i64 3)).setCell ⟨W.heap.size, 1, none⟩ (.int .i64 0)).setCell ⟨W.heap.size, 2, none⟩ (.int .i64 0)).setCell ⟨W.heap.size, 3, none⟩ (.int .u32 0)).setCell ⟨W.heap.size, 4, none⟩ (.string g)).setCell ⟨W.heap.size, 5, none⟩ (.slice (some ⟨W.heap.size + 1, 0, none⟩) 1 1)) = W2 at *
  have hb3 : Below W.heap.size W (W2.alloc (.cells #[.int .i64 x.f0, .int .i64 x.f1, .int .i64 x.f2, .int .u32 x.f3, .string x.f4, .slice A1 x.f5.length c1] 25)) := hb2.alloc (by rw [hs2]; omega) _
  have hh : (W2.alloc (.cells #[.int .i64 x.f0, .int .i64 x.f1, .int .i64 x.f2, .int .u32 x.f3, .string x.f4, .slice A1 x.f5.length c1] 25)).heap[W.heap.size + 1]? = some (.cells #[.int .i64 x.f0, .int .i64 x.f1, .int .i64 x.f2, .int .u32 x.f3, .string x.f4, .slice A1 x.f5.length c1] 25 (0, 0)) := by rw [← hs2]; exact World.alloc_heap_new W2 _
  refine bodyPost_ret (results_cell_row rfl _ _ W.heap.size 25 #[.int .i64 3, .int .i64 0, .int .i64 0, .int .u32 0, .string g, .slice (some ⟨W.heap.size + 1, 0, none⟩) 1 1] (0, 0) _ rfl (blk_alloc h2 _) Tryd.underlying25 rfl (by kernel_rfl)) rfl ?_
  exact ⟨_, rfl, row_one l1 (Kd.C_below HK.out hb3) hh, hb3⟩
end Go.Proofs.YtgkhpecllhiidaaDoor.A
