/- AstSizes: the walk. -/
import Derived.Test.YtgkhpecllhiidaaDoorBr2
import Derived.Deep.RegionHeld3
import Derived.IntWalk
set_option linter.unusedVariables false
set_option linter.unusedSimpArgs false
namespace Go.Proofs.YtgkhpecllhiidaaDoor.A
open Go.RowKit Go.Shelf Go.Proofs.YtgkhpecllhiidaaDoor.As Go.Proofs.YtgkhpecllhiidaaDoorW.PrintWords Go.Proofs.YtgkhpecllhiidaaDoorW.PrintLast Go.Proofs.YtgkhpecllhiidaaDoorW.PrintMore

/-- A statement's cells in a box. -/
def CellsS (W : World) (B : Nat) (s : SS) (D5 D6 D7 D8 D9 : Option Addr) (d5 d6 d7 d8 d9 : Nat) : Prop := W.cell? ⟨B, 0, none⟩ = some (.int .i64 s.f0) ∧ W.cell? ⟨B, 1, none⟩ = some (.int .i64 s.f1) ∧ W.cell? ⟨B, 2, none⟩ = some (.int .i64 s.f2) ∧ W.cell? ⟨B, 3, none⟩ = some (.int .i64 s.f3) ∧ W.cell? ⟨B, 4, none⟩ = some (.string s.f4) ∧ W.cell? ⟨B, 5, none⟩ = some (.slice D5 s.f5.length d5) ∧ W.cell? ⟨B, 6, none⟩ = some (.slice D6 s.f6.length d6) ∧ W.cell? ⟨B, 7, none⟩ = some (.slice D7 s.f7.length d7) ∧ W.cell? ⟨B, 8, none⟩ = some (.slice D8 s.f8.length d8) ∧ W.cell? ⟨B, 9, none⟩ = some (.slice D9 s.f9.length d9)
theorem cellsS_of {W : World} {B : Nat} {s : SS} {D5 D6 D7 D8 D9 : Option Addr} {d5 d6 d7 d8 d9 : Nat} (h : W.heap[B]? = some (.cells #[.int .i64 s.f0, .int .i64 s.f1, .int .i64 s.f2, .int .i64 s.f3, .string s.f4, .slice D5 s.f5.length d5, .slice D6 s.f6.length d6, .slice D7 s.f7.length d7, .slice D8 s.f8.length d8, .slice D9 s.f9.length d9] 38 (0, 0))) : ∀ W', Below W.heap.size W W' → CellsS W' B s D5 D6 D7 D8 D9 d5 d6 d7 d8 d9 := fun W' hb => by
  have h' := heap_kept hb h
  refine ⟨?_, ?_, ?_, ?_, ?_, ?_, ?_, ?_, ?_, ?_⟩ <;> (unfold World.cell?; rw [h']; rfl)
/-- The rows of a statement. -/
def RowsS (W : World) (s : SS) (D5 D6 D7 D8 D9 : Option Addr) : Prop := Kd.string.C W D5 s.f5.length s.f5 ∧ kE.C W D6 s.f6.length s.f6 ∧ kE.C W D7 s.f7.length s.f7 ∧ kS.C W D8 s.f8.length s.f8 ∧ kS.C W D9 s.f9.length s.f9
theorem RowsS.below {w w' : World} {s : SS} {D5 D6 D7 D8 D9 : Option Addr} (h : RowsS w s D5 D6 D7 D8 D9) (hb : Below w.heap.size w w') : RowsS w' s D5 D6 D7 D8 D9 := ⟨Kd.C_below h.1 hb, Kd.C_below h.2.1 hb, Kd.C_below h.2.2.1 hb, Kd.C_below h.2.2.2.1 hb, Kd.C_below h.2.2.2.2 hb⟩
def LensS (s : SS) (d5 d6 d7 d8 d9 : Nat) : Prop := s.f5.length ≤ d5 ∧ s.f6.length ≤ d6 ∧ s.f7.length ≤ d7 ∧ s.f8.length ≤ d8 ∧ s.f9.length ≤ d9
theorem mkS {W : World} {s : SS} {D5 D6 D7 D8 D9 : Option Addr} {d5 d6 d7 d8 d9 : Nat} (h : RowsS W s D5 D6 D7 D8 D9) (l : LensS s d5 d6 d7 d8 d9) : kS.K W s [.int .i64 s.f0, .int .i64 s.f1, .int .i64 s.f2, .int .i64 s.f3, .string s.f4, .slice D5 s.f5.length d5, .slice D6 s.f6.length d6, .slice D7 s.f7.length d7, .slice D8 s.f8.length d8, .slice D9 s.f9.length d9] := k38_mk W s l.1 h.1 l.2.1 h.2.1 l.2.2.1 h.2.2.1 l.2.2.2.1 h.2.2.2.1 l.2.2.2.2 h.2.2.2.2
theorem checkS_calls (s : SS) (hf : fitB (.st s) = true) (D5 D6 D7 D8 D9 : Option Addr) (d5 d6 d7 d8 d9 : Nat) (W : World) (hG : Keys W) (h : RowsS W s D5 D6 D7 D8 D9) (l : LensS s d5 d6 d7 d8 d9) :
    Calls Tryd.prog 22 #[.agg #[.int .i64 s.f0, .int .i64 s.f1, .int .i64 s.f2, .int .i64 s.f3, .string s.f4, .slice D5 s.f5.length d5, .slice D6 s.f6.length d6, .slice D7 s.f7.length d7, .slice D8 s.f8.length d8, .slice D9 s.f9.length d9]] W fun r W' => r = .returned (.int .i64 (checkN [.st s])) ∧ Below W.heap.size W W' :=
  checkStmt_any s D5 D6 D7 D8 D9 d5 d6 d7 d8 d9 W hG h.1 h.2.1 h.2.2.1 h.2.2.2.1 h.2.2.2.2 l.1 l.2.1 l.2.2.1 l.2.2.2.1 l.2.2.2.2 (fit_parts hf).1 (fit_parts hf).2.1 (fit_parts hf).2.2
mutual
theorem deep_le_S : ∀ s : SS, deepS s ≤ sizeS s
  | ⟨_, _, _, _, _, _, i, x, t, e⟩ => by rw [deepS, sizeS]; have := deep_le_Es i; have := deep_le_Es x; have := deep_le_Ss t; have := deep_le_Ss e; omega
theorem deep_le_Ss : ∀ l : List SS, deepSs l ≤ sizeSs l
  | [] => by simp [deepSs, sizeSs]
  | e :: l => by rw [deepSs, sizeSs]; have := deep_le_S e; have := deep_le_Ss l; omega
end
open Kd (Heap heap_int heap_string heap_slice heap_pair heap_iso heap_fix)
theorem heapS : Heap kS := heap_fix (fun d hd => heap_iso _ (heap_pair (heap_int _) (heap_pair (heap_int _) (heap_pair (heap_int _) (heap_pair (heap_int _) (heap_pair heap_string (heap_pair (heap_slice _ heap_string) (heap_pair (heap_slice _ heapE) (heap_pair (heap_slice _ heapE) (heap_pair (heap_slice _ hd) (heap_slice _ hd)))))))))))
theorem prog_closC1 (s : SS) (A : Option Addr) (W : World) (hC : kS.C W A 1 [s]) :
    Calls Tryd.prog 25 #[.slice A 1 1] W fun r W' => ∃ B, r = .returned (.agg #[.int .i64 1, .slice none 0 0, .slice none 0 0, .slice B 1 1]) ∧ kD.C W' B 1 [mainD [s]] ∧ Below W.heap.size W W' :=
  (prog_clos1 _ s A W (Kd.C_F heapS hC)).mono fun r W' h => by obtain ⟨B, h1, h2, h3⟩ := h; exact ⟨B, h1, Kd.F_now h2, h3⟩
theorem prog_closC2 (s t : SS) (A : Option Addr) (W : World) (hC : kS.C W A 2 [s, t]) :
    Calls Tryd.prog 25 #[.slice A 2 2] W fun r W' => ∃ B, r = .returned (.agg #[.int .i64 1, .slice none 0 0, .slice none 0 0, .slice B 1 1]) ∧ kD.C W' B 1 [mainD [s, t]] ∧ Below W.heap.size W W' :=
  (prog_clos2 _ s t A W (Kd.C_F heapS hC)).mono fun r W' h => by obtain ⟨B, h1, h2, h3⟩ := h; exact ⟨B, h1, Kd.F_now h2, h3⟩
theorem row_if {W : World} {e : SE} {s : SS} {A D5 D6 D7 D8 D9 : Option Addr} {c d5 d6 d7 d8 d9 : Nat} (hl : e.f5.length ≤ c) (hC : kE.C W A e.f5.length e.f5) (hR : RowsS W s D5 D6 D7 D8 D9) (hL : LensS s d5 d6 d7 d8 d9) :
    kS.C ((((W.alloc (.cells #[.int .i64 e.f0, .int .i64 e.f1, .int .i64 e.f2, .int .u32 e.f3, .string e.f4, .slice A e.f5.length c] 25)).alloc (.cells #[.int .i64 s.f0, .int .i64 s.f1, .int .i64 s.f2, .int .i64 s.f3, .string s.f4, .slice D5 s.f5.length d5, .slice D6 s.f6.length d6, .slice D7 s.f7.length d7, .slice D8 s.f8.length d8, .slice D9 s.f9.length d9] 38)).alloc (.cells #[.int .i64 s.f0, .int .i64 s.f1, .int .i64 s.f2, .int .i64 s.f3, .string s.f4, .slice D5 s.f5.length d5, .slice D6 s.f6.length d6, .slice D7 s.f7.length d7, .slice D8 s.f8.length d8, .slice D9 s.f9.length d9, .int .i64 s.f0, .int .i64 s.f1, .int .i64 s.f2, .int .i64 s.f3, .string s.f4, .slice D5 s.f5.length d5, .slice D6 s.f6.length d6, .slice D7 s.f7.length d7, .slice D8 s.f8.length d8, .slice D9 s.f9.length d9] 38)).alloc (.cells #[.int .i64 4, .int .i64 0, .int .i64 0, .int .i64 0, .string ⟨#[]⟩, .slice none 0 0, .slice none 0 0, .slice (some ⟨W.heap.size, 0, none⟩) 1 1, .slice (some ⟨W.heap.size + 1, 0, none⟩) 1 1, .slice (some ⟨W.heap.size + 2, 0, none⟩) 2 2] 38)) (some ⟨W.heap.size + 3, 0, none⟩) 1 [ifS e s] := by
  have z1 : (W.alloc (.cells #[.int .i64 e.f0, .int .i64 e.f1, .int .i64 e.f2, .int .u32 e.f3, .string e.f4, .slice A e.f5.length c] 25)).heap.size = W.heap.size + 1 := by simp
  have k1 := World.alloc_heap_new W (.cells #[.int .i64 e.f0, .int .i64 e.f1, .int .i64 e.f2, .int .u32 e.f3, .string e.f4, .slice A e.f5.length c] 25)
  have b1 : Below W.heap.size W (W.alloc (.cells #[.int .i64 e.f0, .int .i64 e.f1, .int .i64 e.f2, .int .u32 e.f3, .string e.f4, .slice A e.f5.length c] 25)) := below_alloc (Below.refl _ _) _
  generalize W.alloc (.cells #[.int .i64 e.f0, .int .i64 e.f1, .int .i64 e.f2, .int .u32 e.f3, .string e.f4, .slice A e.f5.length c] 25) = W1 at *
  have z2 : (W1.alloc (.cells #[.int .i64 s.f0, .int .i64 s.f1, .int .i64 s.f2, .int .i64 s.f3, .string s.f4, .slice D5 s.f5.length d5, .slice D6 s.f6.length d6, .slice D7 s.f7.length d7, .slice D8 s.f8.length d8, .slice D9 s.f9.length d9] 38)).heap.size = W.heap.size + 2 := by simp [z1]
  have k2 := World.alloc_heap_new W1 (.cells #[.int .i64 s.f0, .int .i64 s.f1, .int .i64 s.f2, .int .i64 s.f3, .string s.f4, .slice D5 s.f5.length d5, .slice D6 s.f6.length d6, .slice D7 s.f7.length d7, .slice D8 s.f8.length d8, .slice D9 s.f9.length d9] 38)
  have j1 := blk_alloc k1 (.cells #[.int .i64 s.f0, .int .i64 s.f1, .int .i64 s.f2, .int .i64 s.f3, .string s.f4, .slice D5 s.f5.length d5, .slice D6 s.f6.length d6, .slice D7 s.f7.length d7, .slice D8 s.f8.length d8, .slice D9 s.f9.length d9] 38)
  have b2 : Below W.heap.size W (W1.alloc (.cells #[.int .i64 s.f0, .int .i64 s.f1, .int .i64 s.f2, .int .i64 s.f3, .string s.f4, .slice D5 s.f5.length d5, .slice D6 s.f6.length d6, .slice D7 s.f7.length d7, .slice D8 s.f8.length d8, .slice D9 s.f9.length d9] 38)) := below_alloc b1 _
  generalize W1.alloc (.cells #[.int .i64 s.f0, .int .i64 s.f1, .int .i64 s.f2, .int .i64 s.f3, .string s.f4, .slice D5 s.f5.length d5, .slice D6 s.f6.length d6, .slice D7 s.f7.length d7, .slice D8 s.f8.length d8, .slice D9 s.f9.length d9] 38) = W2 at *
  have z3 : (W2.alloc (.cells #[.int .i64 s.f0, .int .i64 s.f1, .int .i64 s.f2, .int .i64 s.f3, .string s.f4, .slice D5 s.f5.length d5, .slice D6 s.f6.length d6, .slice D7 s.f7.length d7, .slice D8 s.f8.length d8, .slice D9 s.f9.length d9, .int .i64 s.f0, .int .i64 s.f1, .int .i64 s.f2, .int .i64 s.f3, .string s.f4, .slice D5 s.f5.length d5, .slice D6 s.f6.length d6, .slice D7 s.f7.length d7, .slice D8 s.f8.length d8, .slice D9 s.f9.length d9] 38)).heap.size = W.heap.size + 3 := by simp [z2]
  have k3 := World.alloc_heap_new W2 (.cells #[.int .i64 s.f0, .int .i64 s.f1, .int .i64 s.f2, .int .i64 s.f3, .string s.f4, .slice D5 s.f5.length d5, .slice D6 s.f6.length d6, .slice D7 s.f7.length d7, .slice D8 s.f8.length d8, .slice D9 s.f9.length d9, .int .i64 s.f0, .int .i64 s.f1, .int .i64 s.f2, .int .i64 s.f3, .string s.f4, .slice D5 s.f5.length d5, .slice D6 s.f6.length d6, .slice D7 s.f7.length d7, .slice D8 s.f8.length d8, .slice D9 s.f9.length d9] 38)
  have j2 := blk_alloc k2 (.cells #[.int .i64 s.f0, .int .i64 s.f1, .int .i64 s.f2, .int .i64 s.f3, .string s.f4, .slice D5 s.f5.length d5, .slice D6 s.f6.length d6, .slice D7 s.f7.length d7, .slice D8 s.f8.length d8, .slice D9 s.f9.length d9, .int .i64 s.f0, .int .i64 s.f1, .int .i64 s.f2, .int .i64 s.f3, .string s.f4, .slice D5 s.f5.length d5, .slice D6 s.f6.length d6, .slice D7 s.f7.length d7, .slice D8 s.f8.length d8, .slice D9 s.f9.length d9] 38)
  have i1 := blk_alloc j1 (.cells #[.int .i64 s.f0, .int .i64 s.f1, .int .i64 s.f2, .int .i64 s.f3, .string s.f4, .slice D5 s.f5.length d5, .slice D6 s.f6.length d6, .slice D7 s.f7.length d7, .slice D8 s.f8.length d8, .slice D9 s.f9.length d9, .int .i64 s.f0, .int .i64 s.f1, .int .i64 s.f2, .int .i64 s.f3, .string s.f4, .slice D5 s.f5.length d5, .slice D6 s.f6.length d6, .slice D7 s.f7.length d7, .slice D8 s.f8.length d8, .slice D9 s.f9.length d9] 38)
  have b3 : Below W.heap.size W (W2.alloc (.cells #[.int .i64 s.f0, .int .i64 s.f1, .int .i64 s.f2, .int .i64 s.f3, .string s.f4, .slice D5 s.f5.length d5, .slice D6 s.f6.length d6, .slice D7 s.f7.length d7, .slice D8 s.f8.length d8, .slice D9 s.f9.length d9, .int .i64 s.f0, .int .i64 s.f1, .int .i64 s.f2, .int .i64 s.f3, .string s.f4, .slice D5 s.f5.length d5, .slice D6 s.f6.length d6, .slice D7 s.f7.length d7, .slice D8 s.f8.length d8, .slice D9 s.f9.length d9] 38)) := below_alloc b2 _
  generalize W2.alloc (.cells #[.int .i64 s.f0, .int .i64 s.f1, .int .i64 s.f2, .int .i64 s.f3, .string s.f4, .slice D5 s.f5.length d5, .slice D6 s.f6.length d6, .slice D7 s.f7.length d7, .slice D8 s.f8.length d8, .slice D9 s.f9.length d9, .int .i64 s.f0, .int .i64 s.f1, .int .i64 s.f2, .int .i64 s.f3, .string s.f4, .slice D5 s.f5.length d5, .slice D6 s.f6.length d6, .slice D7 s.f7.length d7, .slice D8 s.f8.length d8, .slice D9 s.f9.length d9] 38) = W3 at *
  rw [z1] at j2
  rw [z2] at k3
  have r1 : kE.C W3 (some ⟨W.heap.size, 0, none⟩) 1 [e] := row1 kE (cs := [.int .i64 e.f0, .int .i64 e.f1, .int .i64 e.f2, .int .u32 e.f3, .string e.f4, .slice A e.f5.length c]) rfl (k25_mk _ e hl (Kd.C_below hC b3)) i1
  have r2 : kS.C W3 (some ⟨W.heap.size + 1, 0, none⟩) 1 [s] := row1 kS (cs := [.int .i64 s.f0, .int .i64 s.f1, .int .i64 s.f2, .int .i64 s.f3, .string s.f4, .slice D5 s.f5.length d5, .slice D6 s.f6.length d6, .slice D7 s.f7.length d7, .slice D8 s.f8.length d8, .slice D9 s.f9.length d9]) rfl (mkS (hR.below b3) hL) j2
  have r3 : kS.C W3 (some ⟨W.heap.size + 2, 0, none⟩) 2 [s, s] := row2 kS (cs := [.int .i64 s.f0, .int .i64 s.f1, .int .i64 s.f2, .int .i64 s.f3, .string s.f4, .slice D5 s.f5.length d5, .slice D6 s.f6.length d6, .slice D7 s.f7.length d7, .slice D8 s.f8.length d8, .slice D9 s.f9.length d9]) (ds := [.int .i64 s.f0, .int .i64 s.f1, .int .i64 s.f2, .int .i64 s.f3, .string s.f4, .slice D5 s.f5.length d5, .slice D6 s.f6.length d6, .slice D7 s.f7.length d7, .slice D8 s.f8.length d8, .slice D9 s.f9.length d9]) rfl rfl (mkS (hR.below b3) hL) (mkS (hR.below b3) hL) k3
  have k4 := World.alloc_heap_new W3 (.cells #[.int .i64 4, .int .i64 0, .int .i64 0, .int .i64 0, .string ⟨#[]⟩, .slice none 0 0, .slice none 0 0, .slice (some ⟨W.heap.size, 0, none⟩) 1 1, .slice (some ⟨W.heap.size + 1, 0, none⟩) 1 1, .slice (some ⟨W.heap.size + 2, 0, none⟩) 2 2] 38)
  rw [z3] at k4
  exact row1 kS (cs := [.int .i64 4, .int .i64 0, .int .i64 0, .int .i64 0, .string ⟨#[]⟩, .slice none 0 0, .slice none 0 0, .slice (some ⟨W.heap.size, 0, none⟩) 1 1, .slice (some ⟨W.heap.size + 1, 0, none⟩) 1 1, .slice (some ⟨W.heap.size + 2, 0, none⟩) 2 2]) rfl
    (k38_mk _ (ifS e s) (A5 := none) (c5 := 0) (Nat.le_refl _) (Kd.C_nil _ _) (A6 := none) (c6 := 0) (Nat.le_refl _) (Kd.C_nil _ _) (Nat.le_refl _) (Kd.C_alloc r1 _) (Nat.le_refl _) (Kd.C_alloc r2 _) (Nat.le_refl _) (Kd.C_alloc r3 _)) k4
/-- A program's cells in a box. -/
def CellsP (W : World) (h : Nat) (B : Option Addr) : Prop := W.cell? ⟨h, 0, none⟩ = some (.int .i64 1) ∧ W.cell? ⟨h, 1, none⟩ = some (.slice none 0 0) ∧ W.cell? ⟨h, 2, none⟩ = some (.slice none 0 0) ∧ W.cell? ⟨h, 3, none⟩ = some (.slice B 1 1)
theorem cellsP_of {W : World} {h : Nat} {B : Option Addr} (hh : W.heap[h]? = some (.cells #[.int .i64 1, .slice none 0 0, .slice none 0 0, .slice B 1 1] 46 (0, 0))) : ∀ W', Below W.heap.size W W' → CellsP W' h B := fun W' hb => by
  have h' := heap_kept hb hh
  refine ⟨?_, ?_, ?_, ?_⟩ <;> (unfold World.cell?; rw [h']; rfl)
attribute [local go_sem] max2_int max_two
set_option maxRecDepth 100000 in
set_option maxHeartbeats 40000000 in
theorem astSizes_walk (e f : SE) (s : SS) (A B D5 D6 D7 D8 D9 : Option Addr) (c d d5 d6 d7 d8 d9 : Nat) (w : World) (hG : Keys w) (hC : kE.C w A e.f5.length e.f5) (hl : e.f5.length ≤ c) (hD : kE.C w B f.f5.length f.f5) (hm : f.f5.length ≤ d) (hR : RowsS w s D5 D6 D7 D8 D9) (hL : LensS s d5 d6 d7 d8 d9)
    (hP : AllN szN (.ex e)) (hQ : AllN szN (.ex f)) (hZ : AllN szN (.st s) ∧ AllN lenN (.st s)) :
    Calls Tryd.prog 4 #[.agg #[.int .i64 e.f0, .int .i64 e.f1, .int .i64 e.f2, .int .u32 e.f3, .string e.f4, .slice A e.f5.length c], .agg #[.int .i64 f.f0, .int .i64 f.f1, .int .i64 f.f2, .int .u32 f.f3, .string f.f4, .slice B f.f5.length d], .agg #[.int .i64 s.f0, .int .i64 s.f1, .int .i64 s.f2, .int .i64 s.f3, .string s.f4, .slice D5 s.f5.length d5, .slice D6 s.f6.length d6, .slice D7 s.f7.length d7, .slice D8 s.f8.length d8, .slice D9 s.f9.length d9]] w fun r w' => r = .returned (.bool true) ∧ Below w.heap.size w w' := by
  obtain ⟨k1, b1, hL1, hS1⟩ := lightExpr_f e hP
  obtain ⟨k2, b2, hL2, hS2⟩ := lightExpr_f f hQ
  obtain ⟨k3, b3, hL3, hS3⟩ := lightStmts_f s hZ
  have HG := Lx.Hd.mk hG
  have HC := Lx.Hd.mk (And.intro hC (And.intro hD hR))
  have HL1 := Lx.Hd.mk hL1
  have HL2 := Lx.Hd.mk hL2
  have HL3 := Lx.Hd.mk hL3
  have HLN := Lx.Hd.mk hL
  have HS := Lx.Hd.mk (And.intro hS1 (And.intro hS2 hS3))
  have HPQ := Lx.Hd.mk (And.intro hP (And.intro hQ hZ.1))
  clear hG hC hD hR hL hL1 hL2 hL3 hS1 hS2 hS3 hP hQ hZ
  go_enter Tryd.func4, Tryd.ntmps4
  go_upto_region 1 with (fail)
  rename_i Qq Kx hKx Ky hKy
  refine name_world fun W2 hW2 => ?_
  have HB0 : Lx.Hd (Below w.heap.size w W2) := Lx.Hd.mk (by rw [hW2]; exact below_alloc (below_alloc (below_alloc (Below.refl _ _) _) _) _)
  have z1 : (w.alloc (.cells #[.int .i64 e.f0, .int .i64 e.f1, .int .i64 e.f2, .int .u32 e.f3, .string e.f4, .slice A e.f5.length c] 25)).heap.size = w.heap.size + 1 := by simp
  have z2 : ((w.alloc (.cells #[.int .i64 e.f0, .int .i64 e.f1, .int .i64 e.f2, .int .u32 e.f3, .string e.f4, .slice A e.f5.length c] 25)).alloc (.cells #[.int .i64 f.f0, .int .i64 f.f1, .int .i64 f.f2, .int .u32 f.f3, .string f.f4, .slice B f.f5.length d] 25)).heap.size = w.heap.size + 2 := by simp
  have hb1 : W2.heap[w.heap.size]? = some (.cells #[.int .i64 e.f0, .int .i64 e.f1, .int .i64 e.f2, .int .u32 e.f3, .string e.f4, .slice A e.f5.length c] 25 (0, 0)) := by rw [hW2]; exact blk_alloc (blk_alloc (World.alloc_heap_new w _) _) _
  have hb2 : W2.heap[w.heap.size + 1]? = some (.cells #[.int .i64 f.f0, .int .i64 f.f1, .int .i64 f.f2, .int .u32 f.f3, .string f.f4, .slice B f.f5.length d] 25 (0, 0)) := by rw [hW2, ← z1]; exact blk_alloc (World.alloc_heap_new _ _) _
  have hb3 : W2.heap[w.heap.size + 1 + 1]? = some (.cells #[.int .i64 s.f0, .int .i64 s.f1, .int .i64 s.f2, .int .i64 s.f3, .string s.f4, .slice D5 s.f5.length d5, .slice D6 s.f6.length d6, .slice D7 s.f7.length d7, .slice D8 s.f8.length d8, .slice D9 s.f9.length d9] 38 (0, 0)) := by rw [hW2, show w.heap.size + 1 + 1 = w.heap.size + 2 from rfl, ← z2]; exact World.alloc_heap_new _ _
  have BC1 := Lx.Hd.mk (cells_of hb1)
  have BC2 := Lx.Hd.mk (cells_of hb2)
  have BS1 := Lx.Hd.mk (cellsS_of hb3)
  have HC2 : Lx.Hd (kE.C W2 A e.f5.length e.f5 ∧ kE.C W2 B f.f5.length f.f5 ∧ RowsS W2 s D5 D6 D7 D8 D9) := Lx.Hd.mk ⟨Kd.C_below HC.out.1 HB0.out, Kd.C_below HC.out.2.1 HB0.out, HC.out.2.2.below HB0.out⟩
  have HG2 : Lx.Hd (Keys W2) := Lx.Hd.mk (Keys.below HG.out HB0.out)
  have HB : Lx.Hd (Below W2.heap.size W2 W2) := Lx.Hd.mk (Below.refl _ _)
  clear hW2 z1 z2 hb1 hb2 hb3 HC HG
  generalize w.heap.size = bx at BC1 BC2 BS1 ⊢
  generalize bx + 1 + 1 = bs at BS1 ⊢
  obtain ⟨p0, p1, p2, p3, p4, p5⟩ := BC1.out _ HB.out
  obtain ⟨q0, q1, q2, q3, q4, q5⟩ := BC2.out _ HB.out
  obtain ⟨s0, s1, s2, s3, s4, s5, s6, s7, s8, s9⟩ := BS1.out _ HB.out
  cases b1 with
  | false =>
    go_wp2_with (first | (go_at_call 14; (with_reducible refine (lives_any _ ?s1).mono ?_); (case s1 => exact Keys.below HG2.out (by repeat (first | (with_reducible first | exact HB.out | apply below_alloc | apply pw_below_drewN | apply below_drew) | exact HB.out))); rintro r W3 ⟨rfl, hb⟩; have hn_ := Lx.Hd.mk (below_step (by repeat (first | (with_reducible first | exact HB.out | apply below_alloc | apply pw_below_drewN | apply below_drew) | exact HB.out)) hb); clear hb HB; have HB := hn_; clear hn_; clear p0; clear p1; clear p2; clear p3; clear p4; clear p5; clear q0; clear q1; clear q2; clear q3; clear q4; clear q5; clear s0; clear s1; clear s2; clear s3; clear s4; clear s5; clear s6; clear s7; clear s8; clear s9; obtain ⟨p0, p1, p2, p3, p4, p5⟩ := BC1.out _ HB.out; obtain ⟨q0, q1, q2, q3, q4, q5⟩ := BC2.out _ HB.out; obtain ⟨s0, s1, s2, s3, s4, s5, s6, s7, s8, s9⟩ := BS1.out _ HB.out) | (go_at_call 15; (with_reducible refine (light_calls e k1 _ HL1.out A c _ hl ?s1).mono ?_); (case s1 => exact Kd.C_below HC2.out.1 (by repeat (first | (with_reducible first | exact HB.out | apply below_alloc | apply pw_below_drewN | apply below_drew) | exact HB.out))); rintro r W3 ⟨rfl, hb⟩; have hn_ := Lx.Hd.mk (below_step (by repeat (first | (with_reducible first | exact HB.out | apply below_alloc | apply pw_below_drewN | apply below_drew) | exact HB.out)) hb); clear hb HB; have HB := hn_; clear hn_; clear p0; clear p1; clear p2; clear p3; clear p4; clear p5; clear q0; clear q1; clear q2; clear q3; clear q4; clear q5; clear s0; clear s1; clear s2; clear s3; clear s4; clear s5; clear s6; clear s7; clear s8; clear s9; obtain ⟨p0, p1, p2, p3, p4, p5⟩ := BC1.out _ HB.out; obtain ⟨q0, q1, q2, q3, q4, q5⟩ := BC2.out _ HB.out; obtain ⟨s0, s1, s2, s3, s4, s5, s6, s7, s8, s9⟩ := BS1.out _ HB.out) | fail)
    go_ret
    exact ⟨rfl, HB0.out.trans (HB.out.mono HB0.out.size)⟩
  | true =>
  cases b2 with
  | false =>
    go_wp2_with (first | (go_at_call 14; (with_reducible refine (lives_any _ ?s1).mono ?_); (case s1 => exact Keys.below HG2.out (by repeat (first | (with_reducible first | exact HB.out | apply below_alloc | apply pw_below_drewN | apply below_drew) | exact HB.out))); rintro r W3 ⟨rfl, hb⟩; have hn_ := Lx.Hd.mk (below_step (by repeat (first | (with_reducible first | exact HB.out | apply below_alloc | apply pw_below_drewN | apply below_drew) | exact HB.out)) hb); clear hb HB; have HB := hn_; clear hn_; clear p0; clear p1; clear p2; clear p3; clear p4; clear p5; clear q0; clear q1; clear q2; clear q3; clear q4; clear q5; clear s0; clear s1; clear s2; clear s3; clear s4; clear s5; clear s6; clear s7; clear s8; clear s9; obtain ⟨p0, p1, p2, p3, p4, p5⟩ := BC1.out _ HB.out; obtain ⟨q0, q1, q2, q3, q4, q5⟩ := BC2.out _ HB.out; obtain ⟨s0, s1, s2, s3, s4, s5, s6, s7, s8, s9⟩ := BS1.out _ HB.out) | (go_at_call 15; (with_reducible refine (light_calls e k1 _ HL1.out A c _ hl ?s1).mono ?_); (case s1 => exact Kd.C_below HC2.out.1 (by repeat (first | (with_reducible first | exact HB.out | apply below_alloc | apply pw_below_drewN | apply below_drew) | exact HB.out))); rintro r W3 ⟨rfl, hb⟩; have hn_ := Lx.Hd.mk (below_step (by repeat (first | (with_reducible first | exact HB.out | apply below_alloc | apply pw_below_drewN | apply below_drew) | exact HB.out)) hb); clear hb HB; have HB := hn_; clear hn_; clear p0; clear p1; clear p2; clear p3; clear p4; clear p5; clear q0; clear q1; clear q2; clear q3; clear q4; clear q5; clear s0; clear s1; clear s2; clear s3; clear s4; clear s5; clear s6; clear s7; clear s8; clear s9; obtain ⟨p0, p1, p2, p3, p4, p5⟩ := BC1.out _ HB.out; obtain ⟨q0, q1, q2, q3, q4, q5⟩ := BC2.out _ HB.out; obtain ⟨s0, s1, s2, s3, s4, s5, s6, s7, s8, s9⟩ := BS1.out _ HB.out) | (go_at_call 15; (with_reducible refine (light_calls f k2 _ HL2.out B d _ hm ?s1).mono ?_); (case s1 => exact Kd.C_below HC2.out.2.1 (by repeat (first | (with_reducible first | exact HB.out | apply below_alloc | apply pw_below_drewN | apply below_drew) | exact HB.out))); rintro r W3 ⟨rfl, hb⟩; have hn_ := Lx.Hd.mk (below_step (by repeat (first | (with_reducible first | exact HB.out | apply below_alloc | apply pw_below_drewN | apply below_drew) | exact HB.out)) hb); clear hb HB; have HB := hn_; clear hn_; clear p0; clear p1; clear p2; clear p3; clear p4; clear p5; clear q0; clear q1; clear q2; clear q3; clear q4; clear q5; clear s0; clear s1; clear s2; clear s3; clear s4; clear s5; clear s6; clear s7; clear s8; clear s9; obtain ⟨p0, p1, p2, p3, p4, p5⟩ := BC1.out _ HB.out; obtain ⟨q0, q1, q2, q3, q4, q5⟩ := BC2.out _ HB.out; obtain ⟨s0, s1, s2, s3, s4, s5, s6, s7, s8, s9⟩ := BS1.out _ HB.out) | fail)
    go_ret
    exact ⟨rfl, HB0.out.trans (HB.out.mono HB0.out.size)⟩
  | true =>
  cases b3 with
  | false =>
    go_wp2_with (first | (go_at_call 14; (with_reducible refine (lives_any _ ?s1).mono ?_); (case s1 => exact Keys.below HG2.out (by repeat (first | (with_reducible first | exact HB.out | apply below_alloc | apply pw_below_drewN | apply below_drew) | exact HB.out))); rintro r W3 ⟨rfl, hb⟩; have hn_ := Lx.Hd.mk (below_step (by repeat (first | (with_reducible first | exact HB.out | apply below_alloc | apply pw_below_drewN | apply below_drew) | exact HB.out)) hb); clear hb HB; have HB := hn_; clear hn_; clear p0; clear p1; clear p2; clear p3; clear p4; clear p5; clear q0; clear q1; clear q2; clear q3; clear q4; clear q5; clear s0; clear s1; clear s2; clear s3; clear s4; clear s5; clear s6; clear s7; clear s8; clear s9; obtain ⟨p0, p1, p2, p3, p4, p5⟩ := BC1.out _ HB.out; obtain ⟨q0, q1, q2, q3, q4, q5⟩ := BC2.out _ HB.out; obtain ⟨s0, s1, s2, s3, s4, s5, s6, s7, s8, s9⟩ := BS1.out _ HB.out) | (go_at_call 15; (with_reducible refine (light_calls e k1 _ HL1.out A c _ hl ?s1).mono ?_); (case s1 => exact Kd.C_below HC2.out.1 (by repeat (first | (with_reducible first | exact HB.out | apply below_alloc | apply pw_below_drewN | apply below_drew) | exact HB.out))); rintro r W3 ⟨rfl, hb⟩; have hn_ := Lx.Hd.mk (below_step (by repeat (first | (with_reducible first | exact HB.out | apply below_alloc | apply pw_below_drewN | apply below_drew) | exact HB.out)) hb); clear hb HB; have HB := hn_; clear hn_; clear p0; clear p1; clear p2; clear p3; clear p4; clear p5; clear q0; clear q1; clear q2; clear q3; clear q4; clear q5; clear s0; clear s1; clear s2; clear s3; clear s4; clear s5; clear s6; clear s7; clear s8; clear s9; obtain ⟨p0, p1, p2, p3, p4, p5⟩ := BC1.out _ HB.out; obtain ⟨q0, q1, q2, q3, q4, q5⟩ := BC2.out _ HB.out; obtain ⟨s0, s1, s2, s3, s4, s5, s6, s7, s8, s9⟩ := BS1.out _ HB.out) | (go_at_call 15; (with_reducible refine (light_calls f k2 _ HL2.out B d _ hm ?s1).mono ?_); (case s1 => exact Kd.C_below HC2.out.2.1 (by repeat (first | (with_reducible first | exact HB.out | apply below_alloc | apply pw_below_drewN | apply below_drew) | exact HB.out))); rintro r W3 ⟨rfl, hb⟩; have hn_ := Lx.Hd.mk (below_step (by repeat (first | (with_reducible first | exact HB.out | apply below_alloc | apply pw_below_drewN | apply below_drew) | exact HB.out)) hb); clear hb HB; have HB := hn_; clear hn_; clear p0; clear p1; clear p2; clear p3; clear p4; clear p5; clear q0; clear q1; clear q2; clear q3; clear q4; clear q5; clear s0; clear s1; clear s2; clear s3; clear s4; clear s5; clear s6; clear s7; clear s8; clear s9; obtain ⟨p0, p1, p2, p3, p4, p5⟩ := BC1.out _ HB.out; obtain ⟨q0, q1, q2, q3, q4, q5⟩ := BC2.out _ HB.out; obtain ⟨s0, s1, s2, s3, s4, s5, s6, s7, s8, s9⟩ := BS1.out _ HB.out) | (go_at_call 23; (with_reducible refine (lightStmts_calls s k3 _ HL3.out _ _ ?s1).mono ?_); (case s1 => exact row1 kS rfl (mkS (HC2.out.2.2.below (by repeat (first | (with_reducible first | exact HB.out | apply below_alloc | apply pw_below_drewN | apply below_drew) | exact HB.out))) HLN.out) (World.alloc_heap_new _ _)); rintro r W3 ⟨rfl, hb⟩; have hn_ := Lx.Hd.mk (below_step (by repeat (first | (with_reducible first | exact HB.out | apply below_alloc | apply pw_below_drewN | apply below_drew) | exact HB.out)) hb); clear hb HB; have HB := hn_; clear hn_; clear p0; clear p1; clear p2; clear p3; clear p4; clear p5; clear q0; clear q1; clear q2; clear q3; clear q4; clear q5; clear s0; clear s1; clear s2; clear s3; clear s4; clear s5; clear s6; clear s7; clear s8; clear s9; obtain ⟨p0, p1, p2, p3, p4, p5⟩ := BC1.out _ HB.out; obtain ⟨q0, q1, q2, q3, q4, q5⟩ := BC2.out _ HB.out; obtain ⟨s0, s1, s2, s3, s4, s5, s6, s7, s8, s9⟩ := BS1.out _ HB.out) | fail)
    go_ret
    exact ⟨rfl, HB0.out.trans (HB.out.mono HB0.out.size)⟩
  | true =>
  have hs1 : sizeE e ≤ 300 := HS.out.1 (by first | rfl | trivial)
  have hs2 : sizeE f ≤ 300 := HS.out.2.1 (by first | rfl | trivial)
  have hs3 : sizeS s ≤ 300 := HS.out.2.2 (by first | rfl | trivial)
  have hd1 := deep_le_E e
  have hd2 := deep_le_E f
  have hd3 := deep_le_S s
  have F1 : Lx.Hd (fitB (.ex e) = true) := Lx.Hd.mk (fit_of (by show sizeE e < _; omega) (by show deepE e < _; omega) HPQ.out.1)
  have F2 : Lx.Hd (fitB (.ex f) = true) := Lx.Hd.mk (fit_of (by show sizeE f < _; omega) (by show deepE f < _; omega) HPQ.out.2.1)
  have F3 : Lx.Hd (fitB (.st s) = true) := Lx.Hd.mk (fit_of (by show sizeS s < _; omega) (by show deepS s < _; omega) HPQ.out.2.2)
  have HSZ := Lx.Hd.mk (And.intro hs1 (And.intro hs2 (And.intro hs3 (And.intro hd1 (And.intro hd2 hd3)))))
  clear hs1 hs2 hs3 hd1 hd2 hd3
  obtain ⟨n1, hc1⟩ : ∃ n, checkN [.ex e] = n := ⟨_, rfl⟩
  obtain ⟨n2, hc2⟩ : ∃ n, checkN [.ex f] = n := ⟨_, rfl⟩
  obtain ⟨n3, hc3⟩ : ∃ n, checkN [.st s] = n := ⟨_, rfl⟩
  by_cases z1 : n1 = 0
  rotate_left
  · have z1' : (n1 != 0) = true := bne_iff_ne.mpr z1
    go_wp2_with (first | (go_at_call 14; (with_reducible refine (lives_any _ ?s1).mono ?_); (case s1 => exact Keys.below HG2.out (by repeat (first | (with_reducible first | exact HB.out | apply below_alloc | apply pw_below_drewN | apply below_drew) | exact HB.out))); rintro r W3 ⟨rfl, hb⟩; have hn_ := Lx.Hd.mk (below_step (by repeat (first | (with_reducible first | exact HB.out | apply below_alloc | apply pw_below_drewN | apply below_drew) | exact HB.out)) hb); clear hb HB; have HB := hn_; clear hn_; clear p0; clear p1; clear p2; clear p3; clear p4; clear p5; clear q0; clear q1; clear q2; clear q3; clear q4; clear q5; clear s0; clear s1; clear s2; clear s3; clear s4; clear s5; clear s6; clear s7; clear s8; clear s9; obtain ⟨p0, p1, p2, p3, p4, p5⟩ := BC1.out _ HB.out; obtain ⟨q0, q1, q2, q3, q4, q5⟩ := BC2.out _ HB.out; obtain ⟨s0, s1, s2, s3, s4, s5, s6, s7, s8, s9⟩ := BS1.out _ HB.out) | (go_at_call 15; (with_reducible refine (light_calls e k1 _ HL1.out A c _ hl ?s1).mono ?_); (case s1 => exact Kd.C_below HC2.out.1 (by repeat (first | (with_reducible first | exact HB.out | apply below_alloc | apply pw_below_drewN | apply below_drew) | exact HB.out))); rintro r W3 ⟨rfl, hb⟩; have hn_ := Lx.Hd.mk (below_step (by repeat (first | (with_reducible first | exact HB.out | apply below_alloc | apply pw_below_drewN | apply below_drew) | exact HB.out)) hb); clear hb HB; have HB := hn_; clear hn_; clear p0; clear p1; clear p2; clear p3; clear p4; clear p5; clear q0; clear q1; clear q2; clear q3; clear q4; clear q5; clear s0; clear s1; clear s2; clear s3; clear s4; clear s5; clear s6; clear s7; clear s8; clear s9; obtain ⟨p0, p1, p2, p3, p4, p5⟩ := BC1.out _ HB.out; obtain ⟨q0, q1, q2, q3, q4, q5⟩ := BC2.out _ HB.out; obtain ⟨s0, s1, s2, s3, s4, s5, s6, s7, s8, s9⟩ := BS1.out _ HB.out) | (go_at_call 15; (with_reducible refine (light_calls f k2 _ HL2.out B d _ hm ?s1).mono ?_); (case s1 => exact Kd.C_below HC2.out.2.1 (by repeat (first | (with_reducible first | exact HB.out | apply below_alloc | apply pw_below_drewN | apply below_drew) | exact HB.out))); rintro r W3 ⟨rfl, hb⟩; have hn_ := Lx.Hd.mk (below_step (by repeat (first | (with_reducible first | exact HB.out | apply below_alloc | apply pw_below_drewN | apply below_drew) | exact HB.out)) hb); clear hb HB; have HB := hn_; clear hn_; clear p0; clear p1; clear p2; clear p3; clear p4; clear p5; clear q0; clear q1; clear q2; clear q3; clear q4; clear q5; clear s0; clear s1; clear s2; clear s3; clear s4; clear s5; clear s6; clear s7; clear s8; clear s9; obtain ⟨p0, p1, p2, p3, p4, p5⟩ := BC1.out _ HB.out; obtain ⟨q0, q1, q2, q3, q4, q5⟩ := BC2.out _ HB.out; obtain ⟨s0, s1, s2, s3, s4, s5, s6, s7, s8, s9⟩ := BS1.out _ HB.out) | (go_at_call 23; (with_reducible refine (lightStmts_calls s k3 _ HL3.out _ _ ?s1).mono ?_); (case s1 => exact row1 kS rfl (mkS (HC2.out.2.2.below (by repeat (first | (with_reducible first | exact HB.out | apply below_alloc | apply pw_below_drewN | apply below_drew) | exact HB.out))) HLN.out) (World.alloc_heap_new _ _)); rintro r W3 ⟨rfl, hb⟩; have hn_ := Lx.Hd.mk (below_step (by repeat (first | (with_reducible first | exact HB.out | apply below_alloc | apply pw_below_drewN | apply below_drew) | exact HB.out)) hb); clear hb HB; have HB := hn_; clear hn_; clear p0; clear p1; clear p2; clear p3; clear p4; clear p5; clear q0; clear q1; clear q2; clear q3; clear q4; clear q5; clear s0; clear s1; clear s2; clear s3; clear s4; clear s5; clear s6; clear s7; clear s8; clear s9; obtain ⟨p0, p1, p2, p3, p4, p5⟩ := BC1.out _ HB.out; obtain ⟨q0, q1, q2, q3, q4, q5⟩ := BC2.out _ HB.out; obtain ⟨s0, s1, s2, s3, s4, s5, s6, s7, s8, s9⟩ := BS1.out _ HB.out) | (go_at_call 16; (with_reducible refine (check_calls e F1.out A c _ ?s1 hl ?s2).mono ?_); (case s1 => exact Keys.below HG2.out (by repeat (first | (with_reducible first | exact HB.out | apply below_alloc | apply pw_below_drewN | apply below_drew) | exact HB.out))); (case s2 => exact Kd.C_below HC2.out.1 (by repeat (first | (with_reducible first | exact HB.out | apply below_alloc | apply pw_below_drewN | apply below_drew) | exact HB.out))); rw [hc1]; rintro r W3 ⟨rfl, hb⟩; have hn_ := Lx.Hd.mk (below_step (by repeat (first | (with_reducible first | exact HB.out | apply below_alloc | apply pw_below_drewN | apply below_drew) | exact HB.out)) hb); clear hb HB; have HB := hn_; clear hn_; clear p0; clear p1; clear p2; clear p3; clear p4; clear p5; clear q0; clear q1; clear q2; clear q3; clear q4; clear q5; clear s0; clear s1; clear s2; clear s3; clear s4; clear s5; clear s6; clear s7; clear s8; clear s9; obtain ⟨p0, p1, p2, p3, p4, p5⟩ := BC1.out _ HB.out; obtain ⟨q0, q1, q2, q3, q4, q5⟩ := BC2.out _ HB.out; obtain ⟨s0, s1, s2, s3, s4, s5, s6, s7, s8, s9⟩ := BS1.out _ HB.out) | fail)
    go_ret
    exact ⟨rfl, HB0.out.trans (HB.out.mono HB0.out.size)⟩
  subst z1
  by_cases z2 : n2 = 0
  rotate_left
  · have z2' : (n2 != 0) = true := bne_iff_ne.mpr z2
    go_wp2_with (first | (go_at_call 14; (with_reducible refine (lives_any _ ?s1).mono ?_); (case s1 => exact Keys.below HG2.out (by repeat (first | (with_reducible first | exact HB.out | apply below_alloc | apply pw_below_drewN | apply below_drew) | exact HB.out))); rintro r W3 ⟨rfl, hb⟩; have hn_ := Lx.Hd.mk (below_step (by repeat (first | (with_reducible first | exact HB.out | apply below_alloc | apply pw_below_drewN | apply below_drew) | exact HB.out)) hb); clear hb HB; have HB := hn_; clear hn_; clear p0; clear p1; clear p2; clear p3; clear p4; clear p5; clear q0; clear q1; clear q2; clear q3; clear q4; clear q5; clear s0; clear s1; clear s2; clear s3; clear s4; clear s5; clear s6; clear s7; clear s8; clear s9; obtain ⟨p0, p1, p2, p3, p4, p5⟩ := BC1.out _ HB.out; obtain ⟨q0, q1, q2, q3, q4, q5⟩ := BC2.out _ HB.out; obtain ⟨s0, s1, s2, s3, s4, s5, s6, s7, s8, s9⟩ := BS1.out _ HB.out) | (go_at_call 15; (with_reducible refine (light_calls e k1 _ HL1.out A c _ hl ?s1).mono ?_); (case s1 => exact Kd.C_below HC2.out.1 (by repeat (first | (with_reducible first | exact HB.out | apply below_alloc | apply pw_below_drewN | apply below_drew) | exact HB.out))); rintro r W3 ⟨rfl, hb⟩; have hn_ := Lx.Hd.mk (below_step (by repeat (first | (with_reducible first | exact HB.out | apply below_alloc | apply pw_below_drewN | apply below_drew) | exact HB.out)) hb); clear hb HB; have HB := hn_; clear hn_; clear p0; clear p1; clear p2; clear p3; clear p4; clear p5; clear q0; clear q1; clear q2; clear q3; clear q4; clear q5; clear s0; clear s1; clear s2; clear s3; clear s4; clear s5; clear s6; clear s7; clear s8; clear s9; obtain ⟨p0, p1, p2, p3, p4, p5⟩ := BC1.out _ HB.out; obtain ⟨q0, q1, q2, q3, q4, q5⟩ := BC2.out _ HB.out; obtain ⟨s0, s1, s2, s3, s4, s5, s6, s7, s8, s9⟩ := BS1.out _ HB.out) | (go_at_call 15; (with_reducible refine (light_calls f k2 _ HL2.out B d _ hm ?s1).mono ?_); (case s1 => exact Kd.C_below HC2.out.2.1 (by repeat (first | (with_reducible first | exact HB.out | apply below_alloc | apply pw_below_drewN | apply below_drew) | exact HB.out))); rintro r W3 ⟨rfl, hb⟩; have hn_ := Lx.Hd.mk (below_step (by repeat (first | (with_reducible first | exact HB.out | apply below_alloc | apply pw_below_drewN | apply below_drew) | exact HB.out)) hb); clear hb HB; have HB := hn_; clear hn_; clear p0; clear p1; clear p2; clear p3; clear p4; clear p5; clear q0; clear q1; clear q2; clear q3; clear q4; clear q5; clear s0; clear s1; clear s2; clear s3; clear s4; clear s5; clear s6; clear s7; clear s8; clear s9; obtain ⟨p0, p1, p2, p3, p4, p5⟩ := BC1.out _ HB.out; obtain ⟨q0, q1, q2, q3, q4, q5⟩ := BC2.out _ HB.out; obtain ⟨s0, s1, s2, s3, s4, s5, s6, s7, s8, s9⟩ := BS1.out _ HB.out) | (go_at_call 23; (with_reducible refine (lightStmts_calls s k3 _ HL3.out _ _ ?s1).mono ?_); (case s1 => exact row1 kS rfl (mkS (HC2.out.2.2.below (by repeat (first | (with_reducible first | exact HB.out | apply below_alloc | apply pw_below_drewN | apply below_drew) | exact HB.out))) HLN.out) (World.alloc_heap_new _ _)); rintro r W3 ⟨rfl, hb⟩; have hn_ := Lx.Hd.mk (below_step (by repeat (first | (with_reducible first | exact HB.out | apply below_alloc | apply pw_below_drewN | apply below_drew) | exact HB.out)) hb); clear hb HB; have HB := hn_; clear hn_; clear p0; clear p1; clear p2; clear p3; clear p4; clear p5; clear q0; clear q1; clear q2; clear q3; clear q4; clear q5; clear s0; clear s1; clear s2; clear s3; clear s4; clear s5; clear s6; clear s7; clear s8; clear s9; obtain ⟨p0, p1, p2, p3, p4, p5⟩ := BC1.out _ HB.out; obtain ⟨q0, q1, q2, q3, q4, q5⟩ := BC2.out _ HB.out; obtain ⟨s0, s1, s2, s3, s4, s5, s6, s7, s8, s9⟩ := BS1.out _ HB.out) | (go_at_call 16; (with_reducible refine (check_calls e F1.out A c _ ?s1 hl ?s2).mono ?_); (case s1 => exact Keys.below HG2.out (by repeat (first | (with_reducible first | exact HB.out | apply below_alloc | apply pw_below_drewN | apply below_drew) | exact HB.out))); (case s2 => exact Kd.C_below HC2.out.1 (by repeat (first | (with_reducible first | exact HB.out | apply below_alloc | apply pw_below_drewN | apply below_drew) | exact HB.out))); rw [hc1]; rintro r W3 ⟨rfl, hb⟩; have hn_ := Lx.Hd.mk (below_step (by repeat (first | (with_reducible first | exact HB.out | apply below_alloc | apply pw_below_drewN | apply below_drew) | exact HB.out)) hb); clear hb HB; have HB := hn_; clear hn_; clear p0; clear p1; clear p2; clear p3; clear p4; clear p5; clear q0; clear q1; clear q2; clear q3; clear q4; clear q5; clear s0; clear s1; clear s2; clear s3; clear s4; clear s5; clear s6; clear s7; clear s8; clear s9; obtain ⟨p0, p1, p2, p3, p4, p5⟩ := BC1.out _ HB.out; obtain ⟨q0, q1, q2, q3, q4, q5⟩ := BC2.out _ HB.out; obtain ⟨s0, s1, s2, s3, s4, s5, s6, s7, s8, s9⟩ := BS1.out _ HB.out) | (go_at_call 16; (with_reducible refine (check_calls f F2.out B d _ ?s1 hm ?s2).mono ?_); (case s1 => exact Keys.below HG2.out (by repeat (first | (with_reducible first | exact HB.out | apply below_alloc | apply pw_below_drewN | apply below_drew) | exact HB.out))); (case s2 => exact Kd.C_below HC2.out.2.1 (by repeat (first | (with_reducible first | exact HB.out | apply below_alloc | apply pw_below_drewN | apply below_drew) | exact HB.out))); rw [hc2]; rintro r W3 ⟨rfl, hb⟩; have hn_ := Lx.Hd.mk (below_step (by repeat (first | (with_reducible first | exact HB.out | apply below_alloc | apply pw_below_drewN | apply below_drew) | exact HB.out)) hb); clear hb HB; have HB := hn_; clear hn_; clear p0; clear p1; clear p2; clear p3; clear p4; clear p5; clear q0; clear q1; clear q2; clear q3; clear q4; clear q5; clear s0; clear s1; clear s2; clear s3; clear s4; clear s5; clear s6; clear s7; clear s8; clear s9; obtain ⟨p0, p1, p2, p3, p4, p5⟩ := BC1.out _ HB.out; obtain ⟨q0, q1, q2, q3, q4, q5⟩ := BC2.out _ HB.out; obtain ⟨s0, s1, s2, s3, s4, s5, s6, s7, s8, s9⟩ := BS1.out _ HB.out) | fail)
    go_ret
    exact ⟨rfl, HB0.out.trans (HB.out.mono HB0.out.size)⟩
  subst z2
  by_cases z3 : n3 = 0
  rotate_left
  · have z3' : (n3 != 0) = true := bne_iff_ne.mpr z3
    go_wp2_with (first | (go_at_call 14; (with_reducible refine (lives_any _ ?s1).mono ?_); (case s1 => exact Keys.below HG2.out (by repeat (first | (with_reducible first | exact HB.out | apply below_alloc | apply pw_below_drewN | apply below_drew) | exact HB.out))); rintro r W3 ⟨rfl, hb⟩; have hn_ := Lx.Hd.mk (below_step (by repeat (first | (with_reducible first | exact HB.out | apply below_alloc | apply pw_below_drewN | apply below_drew) | exact HB.out)) hb); clear hb HB; have HB := hn_; clear hn_; clear p0; clear p1; clear p2; clear p3; clear p4; clear p5; clear q0; clear q1; clear q2; clear q3; clear q4; clear q5; clear s0; clear s1; clear s2; clear s3; clear s4; clear s5; clear s6; clear s7; clear s8; clear s9; obtain ⟨p0, p1, p2, p3, p4, p5⟩ := BC1.out _ HB.out; obtain ⟨q0, q1, q2, q3, q4, q5⟩ := BC2.out _ HB.out; obtain ⟨s0, s1, s2, s3, s4, s5, s6, s7, s8, s9⟩ := BS1.out _ HB.out) | (go_at_call 15; (with_reducible refine (light_calls e k1 _ HL1.out A c _ hl ?s1).mono ?_); (case s1 => exact Kd.C_below HC2.out.1 (by repeat (first | (with_reducible first | exact HB.out | apply below_alloc | apply pw_below_drewN | apply below_drew) | exact HB.out))); rintro r W3 ⟨rfl, hb⟩; have hn_ := Lx.Hd.mk (below_step (by repeat (first | (with_reducible first | exact HB.out | apply below_alloc | apply pw_below_drewN | apply below_drew) | exact HB.out)) hb); clear hb HB; have HB := hn_; clear hn_; clear p0; clear p1; clear p2; clear p3; clear p4; clear p5; clear q0; clear q1; clear q2; clear q3; clear q4; clear q5; clear s0; clear s1; clear s2; clear s3; clear s4; clear s5; clear s6; clear s7; clear s8; clear s9; obtain ⟨p0, p1, p2, p3, p4, p5⟩ := BC1.out _ HB.out; obtain ⟨q0, q1, q2, q3, q4, q5⟩ := BC2.out _ HB.out; obtain ⟨s0, s1, s2, s3, s4, s5, s6, s7, s8, s9⟩ := BS1.out _ HB.out) | (go_at_call 15; (with_reducible refine (light_calls f k2 _ HL2.out B d _ hm ?s1).mono ?_); (case s1 => exact Kd.C_below HC2.out.2.1 (by repeat (first | (with_reducible first | exact HB.out | apply below_alloc | apply pw_below_drewN | apply below_drew) | exact HB.out))); rintro r W3 ⟨rfl, hb⟩; have hn_ := Lx.Hd.mk (below_step (by repeat (first | (with_reducible first | exact HB.out | apply below_alloc | apply pw_below_drewN | apply below_drew) | exact HB.out)) hb); clear hb HB; have HB := hn_; clear hn_; clear p0; clear p1; clear p2; clear p3; clear p4; clear p5; clear q0; clear q1; clear q2; clear q3; clear q4; clear q5; clear s0; clear s1; clear s2; clear s3; clear s4; clear s5; clear s6; clear s7; clear s8; clear s9; obtain ⟨p0, p1, p2, p3, p4, p5⟩ := BC1.out _ HB.out; obtain ⟨q0, q1, q2, q3, q4, q5⟩ := BC2.out _ HB.out; obtain ⟨s0, s1, s2, s3, s4, s5, s6, s7, s8, s9⟩ := BS1.out _ HB.out) | (go_at_call 23; (with_reducible refine (lightStmts_calls s k3 _ HL3.out _ _ ?s1).mono ?_); (case s1 => exact row1 kS rfl (mkS (HC2.out.2.2.below (by repeat (first | (with_reducible first | exact HB.out | apply below_alloc | apply pw_below_drewN | apply below_drew) | exact HB.out))) HLN.out) (World.alloc_heap_new _ _)); rintro r W3 ⟨rfl, hb⟩; have hn_ := Lx.Hd.mk (below_step (by repeat (first | (with_reducible first | exact HB.out | apply below_alloc | apply pw_below_drewN | apply below_drew) | exact HB.out)) hb); clear hb HB; have HB := hn_; clear hn_; clear p0; clear p1; clear p2; clear p3; clear p4; clear p5; clear q0; clear q1; clear q2; clear q3; clear q4; clear q5; clear s0; clear s1; clear s2; clear s3; clear s4; clear s5; clear s6; clear s7; clear s8; clear s9; obtain ⟨p0, p1, p2, p3, p4, p5⟩ := BC1.out _ HB.out; obtain ⟨q0, q1, q2, q3, q4, q5⟩ := BC2.out _ HB.out; obtain ⟨s0, s1, s2, s3, s4, s5, s6, s7, s8, s9⟩ := BS1.out _ HB.out) | (go_at_call 16; (with_reducible refine (check_calls e F1.out A c _ ?s1 hl ?s2).mono ?_); (case s1 => exact Keys.below HG2.out (by repeat (first | (with_reducible first | exact HB.out | apply below_alloc | apply pw_below_drewN | apply below_drew) | exact HB.out))); (case s2 => exact Kd.C_below HC2.out.1 (by repeat (first | (with_reducible first | exact HB.out | apply below_alloc | apply pw_below_drewN | apply below_drew) | exact HB.out))); rw [hc1]; rintro r W3 ⟨rfl, hb⟩; have hn_ := Lx.Hd.mk (below_step (by repeat (first | (with_reducible first | exact HB.out | apply below_alloc | apply pw_below_drewN | apply below_drew) | exact HB.out)) hb); clear hb HB; have HB := hn_; clear hn_; clear p0; clear p1; clear p2; clear p3; clear p4; clear p5; clear q0; clear q1; clear q2; clear q3; clear q4; clear q5; clear s0; clear s1; clear s2; clear s3; clear s4; clear s5; clear s6; clear s7; clear s8; clear s9; obtain ⟨p0, p1, p2, p3, p4, p5⟩ := BC1.out _ HB.out; obtain ⟨q0, q1, q2, q3, q4, q5⟩ := BC2.out _ HB.out; obtain ⟨s0, s1, s2, s3, s4, s5, s6, s7, s8, s9⟩ := BS1.out _ HB.out) | (go_at_call 16; (with_reducible refine (check_calls f F2.out B d _ ?s1 hm ?s2).mono ?_); (case s1 => exact Keys.below HG2.out (by repeat (first | (with_reducible first | exact HB.out | apply below_alloc | apply pw_below_drewN | apply below_drew) | exact HB.out))); (case s2 => exact Kd.C_below HC2.out.2.1 (by repeat (first | (with_reducible first | exact HB.out | apply below_alloc | apply pw_below_drewN | apply below_drew) | exact HB.out))); rw [hc2]; rintro r W3 ⟨rfl, hb⟩; have hn_ := Lx.Hd.mk (below_step (by repeat (first | (with_reducible first | exact HB.out | apply below_alloc | apply pw_below_drewN | apply below_drew) | exact HB.out)) hb); clear hb HB; have HB := hn_; clear hn_; clear p0; clear p1; clear p2; clear p3; clear p4; clear p5; clear q0; clear q1; clear q2; clear q3; clear q4; clear q5; clear s0; clear s1; clear s2; clear s3; clear s4; clear s5; clear s6; clear s7; clear s8; clear s9; obtain ⟨p0, p1, p2, p3, p4, p5⟩ := BC1.out _ HB.out; obtain ⟨q0, q1, q2, q3, q4, q5⟩ := BC2.out _ HB.out; obtain ⟨s0, s1, s2, s3, s4, s5, s6, s7, s8, s9⟩ := BS1.out _ HB.out) | (go_at_call 22; (with_reducible refine (checkS_calls s F3.out D5 D6 D7 D8 D9 d5 d6 d7 d8 d9 _ ?s1 ?s2 ?s3).mono ?_); (case s1 => exact Keys.below HG2.out (by repeat (first | (with_reducible first | exact HB.out | apply below_alloc | apply pw_below_drewN | apply below_drew) | exact HB.out))); (case s2 => exact HC2.out.2.2.below (by repeat (first | (with_reducible first | exact HB.out | apply below_alloc | apply pw_below_drewN | apply below_drew) | exact HB.out))); (case s3 => exact HLN.out); rw [hc3]; rintro r W3 ⟨rfl, hb⟩; have hn_ := Lx.Hd.mk (below_step (by repeat (first | (with_reducible first | exact HB.out | apply below_alloc | apply pw_below_drewN | apply below_drew) | exact HB.out)) hb); clear hb HB; have HB := hn_; clear hn_; clear p0; clear p1; clear p2; clear p3; clear p4; clear p5; clear q0; clear q1; clear q2; clear q3; clear q4; clear q5; clear s0; clear s1; clear s2; clear s3; clear s4; clear s5; clear s6; clear s7; clear s8; clear s9; obtain ⟨p0, p1, p2, p3, p4, p5⟩ := BC1.out _ HB.out; obtain ⟨q0, q1, q2, q3, q4, q5⟩ := BC2.out _ HB.out; obtain ⟨s0, s1, s2, s3, s4, s5, s6, s7, s8, s9⟩ := BS1.out _ HB.out) | fail)
    go_ret
    exact ⟨rfl, HB0.out.trans (HB.out.mono HB0.out.size)⟩
  subst z3
  go_upto_region 5 with (first | (go_at_call 14; (with_reducible refine (lives_any _ ?s1).mono ?_); (case s1 => exact Keys.below HG2.out (by repeat (first | (with_reducible first | exact HB.out | apply below_alloc | apply pw_below_drewN | apply below_drew) | exact HB.out))); rintro r W3 ⟨rfl, hb⟩; have hn_ := Lx.Hd.mk (below_step (by repeat (first | (with_reducible first | exact HB.out | apply below_alloc | apply pw_below_drewN | apply below_drew) | exact HB.out)) hb); clear hb HB; have HB := hn_; clear hn_; clear p0; clear p1; clear p2; clear p3; clear p4; clear p5; clear q0; clear q1; clear q2; clear q3; clear q4; clear q5; clear s0; clear s1; clear s2; clear s3; clear s4; clear s5; clear s6; clear s7; clear s8; clear s9; obtain ⟨p0, p1, p2, p3, p4, p5⟩ := BC1.out _ HB.out; obtain ⟨q0, q1, q2, q3, q4, q5⟩ := BC2.out _ HB.out; obtain ⟨s0, s1, s2, s3, s4, s5, s6, s7, s8, s9⟩ := BS1.out _ HB.out) | (go_at_call 15; (with_reducible refine (light_calls e k1 _ HL1.out A c _ hl ?s1).mono ?_); (case s1 => exact Kd.C_below HC2.out.1 (by repeat (first | (with_reducible first | exact HB.out | apply below_alloc | apply pw_below_drewN | apply below_drew) | exact HB.out))); rintro r W3 ⟨rfl, hb⟩; have hn_ := Lx.Hd.mk (below_step (by repeat (first | (with_reducible first | exact HB.out | apply below_alloc | apply pw_below_drewN | apply below_drew) | exact HB.out)) hb); clear hb HB; have HB := hn_; clear hn_; clear p0; clear p1; clear p2; clear p3; clear p4; clear p5; clear q0; clear q1; clear q2; clear q3; clear q4; clear q5; clear s0; clear s1; clear s2; clear s3; clear s4; clear s5; clear s6; clear s7; clear s8; clear s9; obtain ⟨p0, p1, p2, p3, p4, p5⟩ := BC1.out _ HB.out; obtain ⟨q0, q1, q2, q3, q4, q5⟩ := BC2.out _ HB.out; obtain ⟨s0, s1, s2, s3, s4, s5, s6, s7, s8, s9⟩ := BS1.out _ HB.out) | (go_at_call 15; (with_reducible refine (light_calls f k2 _ HL2.out B d _ hm ?s1).mono ?_); (case s1 => exact Kd.C_below HC2.out.2.1 (by repeat (first | (with_reducible first | exact HB.out | apply below_alloc | apply pw_below_drewN | apply below_drew) | exact HB.out))); rintro r W3 ⟨rfl, hb⟩; have hn_ := Lx.Hd.mk (below_step (by repeat (first | (with_reducible first | exact HB.out | apply below_alloc | apply pw_below_drewN | apply below_drew) | exact HB.out)) hb); clear hb HB; have HB := hn_; clear hn_; clear p0; clear p1; clear p2; clear p3; clear p4; clear p5; clear q0; clear q1; clear q2; clear q3; clear q4; clear q5; clear s0; clear s1; clear s2; clear s3; clear s4; clear s5; clear s6; clear s7; clear s8; clear s9; obtain ⟨p0, p1, p2, p3, p4, p5⟩ := BC1.out _ HB.out; obtain ⟨q0, q1, q2, q3, q4, q5⟩ := BC2.out _ HB.out; obtain ⟨s0, s1, s2, s3, s4, s5, s6, s7, s8, s9⟩ := BS1.out _ HB.out) | (go_at_call 23; (with_reducible refine (lightStmts_calls s k3 _ HL3.out _ _ ?s1).mono ?_); (case s1 => exact row1 kS rfl (mkS (HC2.out.2.2.below (by repeat (first | (with_reducible first | exact HB.out | apply below_alloc | apply pw_below_drewN | apply below_drew) | exact HB.out))) HLN.out) (World.alloc_heap_new _ _)); rintro r W3 ⟨rfl, hb⟩; have hn_ := Lx.Hd.mk (below_step (by repeat (first | (with_reducible first | exact HB.out | apply below_alloc | apply pw_below_drewN | apply below_drew) | exact HB.out)) hb); clear hb HB; have HB := hn_; clear hn_; clear p0; clear p1; clear p2; clear p3; clear p4; clear p5; clear q0; clear q1; clear q2; clear q3; clear q4; clear q5; clear s0; clear s1; clear s2; clear s3; clear s4; clear s5; clear s6; clear s7; clear s8; clear s9; obtain ⟨p0, p1, p2, p3, p4, p5⟩ := BC1.out _ HB.out; obtain ⟨q0, q1, q2, q3, q4, q5⟩ := BC2.out _ HB.out; obtain ⟨s0, s1, s2, s3, s4, s5, s6, s7, s8, s9⟩ := BS1.out _ HB.out) | (go_at_call 16; (with_reducible refine (check_calls e F1.out A c _ ?s1 hl ?s2).mono ?_); (case s1 => exact Keys.below HG2.out (by repeat (first | (with_reducible first | exact HB.out | apply below_alloc | apply pw_below_drewN | apply below_drew) | exact HB.out))); (case s2 => exact Kd.C_below HC2.out.1 (by repeat (first | (with_reducible first | exact HB.out | apply below_alloc | apply pw_below_drewN | apply below_drew) | exact HB.out))); rw [hc1]; rintro r W3 ⟨rfl, hb⟩; have hn_ := Lx.Hd.mk (below_step (by repeat (first | (with_reducible first | exact HB.out | apply below_alloc | apply pw_below_drewN | apply below_drew) | exact HB.out)) hb); clear hb HB; have HB := hn_; clear hn_; clear p0; clear p1; clear p2; clear p3; clear p4; clear p5; clear q0; clear q1; clear q2; clear q3; clear q4; clear q5; clear s0; clear s1; clear s2; clear s3; clear s4; clear s5; clear s6; clear s7; clear s8; clear s9; obtain ⟨p0, p1, p2, p3, p4, p5⟩ := BC1.out _ HB.out; obtain ⟨q0, q1, q2, q3, q4, q5⟩ := BC2.out _ HB.out; obtain ⟨s0, s1, s2, s3, s4, s5, s6, s7, s8, s9⟩ := BS1.out _ HB.out) | (go_at_call 16; (with_reducible refine (check_calls f F2.out B d _ ?s1 hm ?s2).mono ?_); (case s1 => exact Keys.below HG2.out (by repeat (first | (with_reducible first | exact HB.out | apply below_alloc | apply pw_below_drewN | apply below_drew) | exact HB.out))); (case s2 => exact Kd.C_below HC2.out.2.1 (by repeat (first | (with_reducible first | exact HB.out | apply below_alloc | apply pw_below_drewN | apply below_drew) | exact HB.out))); rw [hc2]; rintro r W3 ⟨rfl, hb⟩; have hn_ := Lx.Hd.mk (below_step (by repeat (first | (with_reducible first | exact HB.out | apply below_alloc | apply pw_below_drewN | apply below_drew) | exact HB.out)) hb); clear hb HB; have HB := hn_; clear hn_; clear p0; clear p1; clear p2; clear p3; clear p4; clear p5; clear q0; clear q1; clear q2; clear q3; clear q4; clear q5; clear s0; clear s1; clear s2; clear s3; clear s4; clear s5; clear s6; clear s7; clear s8; clear s9; obtain ⟨p0, p1, p2, p3, p4, p5⟩ := BC1.out _ HB.out; obtain ⟨q0, q1, q2, q3, q4, q5⟩ := BC2.out _ HB.out; obtain ⟨s0, s1, s2, s3, s4, s5, s6, s7, s8, s9⟩ := BS1.out _ HB.out) | (go_at_call 22; (with_reducible refine (checkS_calls s F3.out D5 D6 D7 D8 D9 d5 d6 d7 d8 d9 _ ?s1 ?s2 ?s3).mono ?_); (case s1 => exact Keys.below HG2.out (by repeat (first | (with_reducible first | exact HB.out | apply below_alloc | apply pw_below_drewN | apply below_drew) | exact HB.out))); (case s2 => exact HC2.out.2.2.below (by repeat (first | (with_reducible first | exact HB.out | apply below_alloc | apply pw_below_drewN | apply below_drew) | exact HB.out))); (case s3 => exact HLN.out); rw [hc3]; rintro r W3 ⟨rfl, hb⟩; have hn_ := Lx.Hd.mk (below_step (by repeat (first | (with_reducible first | exact HB.out | apply below_alloc | apply pw_below_drewN | apply below_drew) | exact HB.out)) hb); clear hb HB; have HB := hn_; clear hn_; clear p0; clear p1; clear p2; clear p3; clear p4; clear p5; clear q0; clear q1; clear q2; clear q3; clear q4; clear q5; clear s0; clear s1; clear s2; clear s3; clear s4; clear s5; clear s6; clear s7; clear s8; clear s9; obtain ⟨p0, p1, p2, p3, p4, p5⟩ := BC1.out _ HB.out; obtain ⟨q0, q1, q2, q3, q4, q5⟩ := BC2.out _ HB.out; obtain ⟨s0, s1, s2, s3, s4, s5, s6, s7, s8, s9⟩ := BS1.out _ HB.out) | fail)
  go_upto_region 6 with (fail)
  refine name_world fun W4 hW4 => ?_
  have hB4 : Below W2.heap.size W2 W4 := by rw [hW4]; exact below_alloc (below_alloc HB.out _) _
  have hz : (W3.alloc (.cells #[.int .i64 e.f0, .int .i64 e.f1, .int .i64 e.f2, .int .u32 e.f3, .string e.f4, .slice A e.f5.length c, .int .i64 f.f0, .int .i64 f.f1, .int .i64 f.f2, .int .u32 f.f3, .string f.f4, .slice B f.f5.length d] 25)).heap.size = W3.heap.size + 1 := by simp
  have hg : W4.heap[W3.heap.size]? = some (.cells #[.int .i64 e.f0, .int .i64 e.f1, .int .i64 e.f2, .int .u32 e.f3, .string e.f4, .slice A e.f5.length c, .int .i64 f.f0, .int .i64 f.f1, .int .i64 f.f2, .int .u32 f.f3, .string f.f4, .slice B f.f5.length d] 25 (0, 0)) := by rw [hW4]; exact blk_alloc (World.alloc_heap_new _ _) _
  have hb7 : W4.heap[W3.heap.size + 1]? = some (.cells #[.int .i64 6, .int .i64 1, .int .i64 0, .int .u32 0, .string ⟨#[]⟩, .slice (some ⟨W3.heap.size, 0, none⟩) 2 2] 25 (0, 0)) := by rw [hW4, ← hz]; exact World.alloc_heap_new _ _
  have hr7 : kE.C W4 (some ⟨W3.heap.size, 0, none⟩) 2 [e, f] := row_two hl hm (Kd.C_below HC2.out.1 hB4) (Kd.C_below HC2.out.2.1 hB4) hg
  have hpos : 0 < W4.heap.size := Nat.lt_of_le_of_lt (Nat.zero_le _) (Array.getElem?_eq_some_iff.1 hg).1
  obtain ⟨sm, hsm⟩ : ∃ sm, sm = sumE e f := ⟨_, rfl⟩
  have BC7 : Aside0 (∀ W', Below W4.heap.size W4 W' → CellsE W' (W3.heap.size + 1) sm (some ⟨W3.heap.size, 0, none⟩) 2) := Aside0.mk (by rw [hsm]; exact cells_of (x := sumE e f) hb7)
  have HE3 : Aside0 (sm.f5.length ≤ 2 ∧ Kd.F kE W4 (fun k => k < W4.heap.size) (some ⟨W3.heap.size, 0, none⟩) sm.f5.length sm.f5) := Aside0.mk (by rw [hsm]; exact ⟨Nat.le_refl _, Kd.C_F heapE hr7⟩)
  have HE1 : Aside0 (e.f5.length ≤ c ∧ Kd.F kE W4 (fun k => k < W4.heap.size) A e.f5.length e.f5) := Aside0.mk ⟨hl, Kd.C_F heapE (Kd.C_below HC2.out.1 hB4)⟩
  have HE2 : Aside0 (f.f5.length ≤ d ∧ Kd.F kE W4 (fun k => k < W4.heap.size) B f.f5.length f.f5) := Aside0.mk ⟨hm, Kd.C_F heapE (Kd.C_below HC2.out.2.1 hB4)⟩
  have BC5 : Aside0 (∀ W', Below W4.heap.size W4 W' → CellsE W' bx e A c) := Aside0.mk fun W' hb => BC1.out W' (hB4.trans (hb.mono hB4.size))
  have BC6 : Aside0 (∀ W', Below W4.heap.size W4 W' → CellsE W' (bx + 1) f B d) := Aside0.mk fun W' hb => BC2.out W' (hB4.trans (hb.mono hB4.size))
  have BS4 : Lx.Hd (∀ W', Below W4.heap.size W4 W' → CellsS W' bs s D5 D6 D7 D8 D9 d5 d6 d7 d8 d9) := Lx.Hd.mk fun W' hb => BS1.out W' (hB4.trans (hb.mono hB4.size))
  have HR4 : Lx.Hd (RowsS W4 s D5 D6 D7 D8 D9) := Lx.Hd.mk (HC2.out.2.2.below hB4)
  have HB4 := Lx.Hd.mk (HB0.out.trans (hB4.mono HB0.out.size))
  have HG4 := Lx.Hd.mk (Keys.below HG2.out hB4)
  have HSM := Lx.Hd.mk hsm
  have HC123 := Lx.Hd.mk (And.intro hc1 (And.intro hc2 hc3))
  clear p0 p1 p2 p3 p4 p5 q0 q1 q2 q3 q4 q5 s0 s1 s2 s3 s4 s5 s6 s7 s8 s9
  clear hW4 hz hg hb7 hr7 hsm hB4 hc1 hc2 hc3 HB BC1 BC2 BS1 HC2 HG2 HB0 HL1 HL2 HL3 F1 F2 F3 HS
  generalize some (⟨W3.heap.size, 0, none⟩ : Addr) = A7 at BC7 HE3 ⊢
  generalize W3.heap.size + 1 = b7 at BC7 ⊢
  have BC1 := BC5
  have BC2 := BC6
  have BC3 := BC7
  clear BC5 BC6 BC7
  go_upto_region 8 with (fail)
  go_cut [10, 11, 12] (fun v10 v11 v12 wc => ∃ (h10 h11 h12 : Nat) (B5 B11 B17 : Option Addr), v10 = .pointer (some ⟨h10, 0, none⟩) ∧ v11 = .pointer (some ⟨h11, 0, none⟩) ∧ v12 = .pointer (some ⟨h12, 0, none⟩) ∧
    Lx.Hd ((wc.heap[h10]? = some (.cells #[.int .i64 1, .slice none 0 0, .slice none 0 0, .slice B5 1 1] 46 (0, 0)) ∧ wc.heap[h11]? = some (.cells #[.int .i64 1, .slice none 0 0, .slice none 0 0, .slice B11 1 1] 46 (0, 0)) ∧ wc.heap[h12]? = some (.cells #[.int .i64 1, .slice none 0 0, .slice none 0 0, .slice B17 1 1] 46 (0, 0))) ∧
      (kD.C wc B5 1 [mainD [retS e]] ∧ kD.C wc B11 1 [mainD [retS f]] ∧ kD.C wc B17 1 [mainD [retS sm]])) ∧ Lx.Hd (Below W4.heap.size W4 wc))
  case first =>
    rename_i Kq hKq Jq Kq1 hJq hKq1
    clear hKq
    clear Kq
    clear BS4 HR4 HB4 HG4 HSM HC123 HSZ HPQ HLN
    refine start_ (n := 24) (S := fun w' => True) (ds := []) #[false, false, false, false, false, false, false, false, false, false, false, false, false, false, false, false, false, false, false, false, false, false, false, false] (by kernel_rfl) rfl rfl trivial (fun hHeld => ?_)
    refine with_tabW sizes8.tab8 sizes8.bits8 (fun HT_ HW_ => ?_)
    have HB : Aside0 (Below W4.heap.size W4 W4.drew) := Aside0.mk (below_drew (Below.refl _ _))
    have HS : Aside0 (∀ k : Nat, False → W4.heap.size ≤ k ∧ k < W4.drew.heap.size) := Aside0.mk (fun _ h => h.elim)
    have HV : Aside0 (0 < W4.drew.heap.size ∧ 0 < W4.drew.heap.size ∧ 0 < W4.drew.heap.size) := Aside0.mk ⟨hpos, hpos, hpos⟩
    have HU : Aside0 (((0 : Nat) ≠ 0 → (0 : Nat) ≠ 0 → (0 : Nat) ≠ 0) ∧ ((0 : Nat) ≠ 0 → (0 : Nat) ≠ 0 → (0 : Nat) ≠ 0) ∧ ((0 : Nat) ≠ 0 → (0 : Nat) ≠ 0 → (0 : Nat) ≠ 0)) := Aside0.mk ⟨fun h => absurd rfl h, fun h => absurd rfl h, fun h => absurd rfl h⟩
    refine pure_ (i := 0) (N := some 52) (v := ?_) (a' := ?_) #[true, false, false, false, false, false, false, false, false, false, false, false, false, false, false, false, false, false, false, false, false, false, false, false] rfl rfl (by kernel_rfl) (fun _ _ _ h => h) (Or.inl ⟨by rfl, ?_⟩) ?_ ?_
    rotate_left
    · intro w'
      go_simp
      with_reducible rfl
    rotate_left
    · simp only [Act.put, List.setIfInBounds_toArray, List.set_cons_zero, List.set_cons_succ, i64_w, i32_w]
      rfl
    refine pure_ (i := 1) (N := some 53) (v := ?_) (a' := ?_) #[true, true, false, false, false, false, false, false, false, false, false, false, false, false, false, false, false, false, false, false, false, false, false, false] rfl rfl (by kernel_rfl) (fun _ _ _ h => h) (Or.inl ⟨by rfl, ?_⟩) ?_ ?_
    rotate_left
    · intro w'
      go_simp
      with_reducible rfl
    rotate_left
    · simp only [Act.put, List.setIfInBounds_toArray, List.set_cons_zero, List.set_cons_succ, i64_w, i32_w]
      rfl
    refine pure_ (i := 6) (N := some 58) (v := ?_) (a' := ?_) #[true, true, false, false, false, false, true, false, false, false, false, false, false, false, false, false, false, false, false, false, false, false, false, false] rfl rfl (by kernel_rfl) (fun _ _ _ h => h) (Or.inl ⟨by rfl, ?_⟩) ?_ ?_
    rotate_left
    · intro w'
      go_simp
      with_reducible rfl
    rotate_left
    · simp only [Act.put, List.setIfInBounds_toArray, List.set_cons_zero, List.set_cons_succ, i64_w, i32_w]
      rfl
    refine pure_ (i := 7) (N := some 59) (v := ?_) (a' := ?_) #[true, true, false, false, false, false, true, true, false, false, false, false, false, false, false, false, false, false, false, false, false, false, false, false] rfl rfl (by kernel_rfl) (fun _ _ _ h => h) (Or.inl ⟨by rfl, ?_⟩) ?_ ?_
    rotate_left
    · intro w'
      go_simp
      with_reducible rfl
    rotate_left
    · simp only [Act.put, List.setIfInBounds_toArray, List.set_cons_zero, List.set_cons_succ, i64_w, i32_w]
      rfl
    refine pure_ (i := 12) (N := some 64) (v := ?_) (a' := ?_) #[true, true, false, false, false, false, true, true, false, false, false, false, true, false, false, false, false, false, false, false, false, false, false, false] rfl rfl (by kernel_rfl) (fun _ _ _ h => h) (Or.inl ⟨by rfl, ?_⟩) ?_ ?_
    rotate_left
    · intro w'
      go_simp
      with_reducible rfl
    rotate_left
    · simp only [Act.put, List.setIfInBounds_toArray, List.set_cons_zero, List.set_cons_succ, i64_w, i32_w]
      rfl
    refine pure_ (i := 13) (N := some 65) (v := ?_) (a' := ?_) #[true, true, false, false, false, false, true, true, false, false, false, false, true, true, false, false, false, false, false, false, false, false, false, false] rfl rfl (by kernel_rfl) (fun _ _ _ h => h) (Or.inl ⟨by rfl, ?_⟩) ?_ ?_
    rotate_left
    · intro w'
      go_simp
      with_reducible rfl
    rotate_left
    · simp only [Act.put, List.setIfInBounds_toArray, List.set_cons_zero, List.set_cons_succ, i64_w, i32_w]
      rfl
    refine inv_at [2, 3, 4, 5, 8, 9, 10, 11, 14, 15, 16, 17, 18, 19, 20, 21, 22, 23] (sizes8.R bx b7 e f sm A B A7 c d 2 W4) HT_.out HW_.out (by kernel_rfl) (by kernel_rfl) ?_ ?_ ?_
    · unfold sizes8.R
      exact ⟨fun _ => False, none, 0, none, none, 0, none, none, 0, none, 0, 0, 0, .bool false, .bool false, .bool false, .bool false, .bool false, .bool false, .bool false, .bool false, .bool false, .bool false, .bool false, .bool false, by simp only [putSel, Bool.false_eq_true, if_false], HB.out, HS.out, HV.out, HU.out, fun h_ => absurd h_ (by decide), fun h_ => absurd h_ (by decide), fun h_ => absurd h_ (by decide), fun h_ => absurd h_ (by decide), fun h_ => absurd h_ (by decide), fun h_ => absurd h_ (by decide), fun h_ => absurd h_ (by decide), fun h_ => absurd h_ (by decide), fun h_ => absurd h_ (by decide), fun h_ => absurd h_ (by decide), fun h_ => absurd h_ (by decide), fun h_ => absurd h_ (by decide), fun h_ => absurd h_ (by decide), fun h_ => absurd h_ (by decide), fun h_ => absurd h_ (by decide), fun h_ => absurd h_ (by decide), fun h_ => absurd h_ (by decide), fun h_ => absurd h_ (by decide), fun h_ => absurd h_ (by decide), fun h_ => absurd h_ (by decide), fun h_ => absurd h_ (by decide), fun h_ => absurd h_ (by decide), fun h_ => absurd h_ (by decide), fun h_ => absurd h_ (by decide), fun h_ => absurd h_ (by decide), fun h_ => absurd h_ (by decide), fun h_ => absurd h_ (by decide), fun h_ => absurd h_ (by decide), fun h_ => absurd h_ (by decide), fun h_ => absurd h_ (by decide)⟩
    · have K_ : ∀ (a0 : Act) (Q : Exit → Act → World → Prop), a0.tmps.size = 155 → a0.tmps[52]? = some (.func (.func 25) #[] #[]) → a0.tmps[53]? = some (.func (.func 24) #[] #[]) → a0.tmps[58]? = some (.func (.func 25) #[] #[]) → a0.tmps[59]? = some (.func (.func 24) #[] #[]) → a0.tmps[64]? = some (.func (.func 25) #[] #[]) → a0.tmps[65]? = some (.func (.func 24) #[] #[]) → a0.tmps[3]? = some (.pointer (some ⟨bx, 0, none⟩)) → a0.tmps[4]? = some (.pointer (some ⟨bx + 1, 0, none⟩)) → a0.tmps[7]? = some (.pointer (some ⟨b7, 0, none⟩)) → ∀ i ∈ [2, 3, 4, 5, 8, 9, 10, 11, 14, 15, 16, 17, 18, 19, 20, 21, 22, 23], StepAt Tryd.prog (opsOf Tryd.f4 8) Q sizes8.B8 [2, 3, 4, 5, 8, 9, 10, 11, 14, 15, 16, 17, 18, 19, 20, 21, 22, 23] (sizes8.R bx b7 e f sm A B A7 c d 2 W4 a0) i := fun a0 Q hz_ h52_ h53_ h58_ h59_ h64_ h65_ h3_ h4_ h7_ => steps_cons (sizes8.s2 bx b7 e f sm A B A7 c d 2 W4 BC1 BC2 BC3 HE1 HE2 HE3 _ hz_ h52_ h53_ h58_ h59_ h64_ h65_ h3_ h4_ h7_ _) (steps_cons (sizes8.s3 bx b7 e f sm A B A7 c d 2 W4 BC1 BC2 BC3 HE1 HE2 HE3 _ hz_ h52_ h53_ h58_ h59_ h64_ h65_ h3_ h4_ h7_ _) (steps_cons (sizes8.s4 bx b7 e f sm A B A7 c d 2 W4 BC1 BC2 BC3 HE1 HE2 HE3 _ hz_ h52_ h53_ h58_ h59_ h64_ h65_ h3_ h4_ h7_ _) (steps_cons (sizes8.s5 bx b7 e f sm A B A7 c d 2 W4 BC1 BC2 BC3 HE1 HE2 HE3 _ hz_ h52_ h53_ h58_ h59_ h64_ h65_ h3_ h4_ h7_ _) (steps_cons (sizes8.s8 bx b7 e f sm A B A7 c d 2 W4 BC1 BC2 BC3 HE1 HE2 HE3 _ hz_ h52_ h53_ h58_ h59_ h64_ h65_ h3_ h4_ h7_ _) (steps_cons (sizes8.s9 bx b7 e f sm A B A7 c d 2 W4 BC1 BC2 BC3 HE1 HE2 HE3 _ hz_ h52_ h53_ h58_ h59_ h64_ h65_ h3_ h4_ h7_ _) (steps_cons (sizes8.s10 bx b7 e f sm A B A7 c d 2 W4 BC1 BC2 BC3 HE1 HE2 HE3 _ hz_ h52_ h53_ h58_ h59_ h64_ h65_ h3_ h4_ h7_ _) (steps_cons (sizes8.s11 bx b7 e f sm A B A7 c d 2 W4 BC1 BC2 BC3 HE1 HE2 HE3 _ hz_ h52_ h53_ h58_ h59_ h64_ h65_ h3_ h4_ h7_ _) (steps_cons (sizes8.s14 bx b7 e f sm A B A7 c d 2 W4 BC1 BC2 BC3 HE1 HE2 HE3 _ hz_ h52_ h53_ h58_ h59_ h64_ h65_ h3_ h4_ h7_ _) (steps_cons (sizes8.s15 bx b7 e f sm A B A7 c d 2 W4 BC1 BC2 BC3 HE1 HE2 HE3 _ hz_ h52_ h53_ h58_ h59_ h64_ h65_ h3_ h4_ h7_ _) (steps_cons (sizes8.s16 bx b7 e f sm A B A7 c d 2 W4 BC1 BC2 BC3 HE1 HE2 HE3 _ hz_ h52_ h53_ h58_ h59_ h64_ h65_ h3_ h4_ h7_ _) (steps_cons (sizes8.s17 bx b7 e f sm A B A7 c d 2 W4 BC1 BC2 BC3 HE1 HE2 HE3 _ hz_ h52_ h53_ h58_ h59_ h64_ h65_ h3_ h4_ h7_ _) (steps_cons (sizes8.s18 bx b7 e f sm A B A7 c d 2 W4 BC1 BC2 BC3 HE1 HE2 HE3 _ hz_ h52_ h53_ h58_ h59_ h64_ h65_ h3_ h4_ h7_ _) (steps_cons (sizes8.s19 bx b7 e f sm A B A7 c d 2 W4 BC1 BC2 BC3 HE1 HE2 HE3 _ hz_ h52_ h53_ h58_ h59_ h64_ h65_ h3_ h4_ h7_ _) (steps_cons (sizes8.s20 bx b7 e f sm A B A7 c d 2 W4 BC1 BC2 BC3 HE1 HE2 HE3 _ hz_ h52_ h53_ h58_ h59_ h64_ h65_ h3_ h4_ h7_ _) (steps_cons (sizes8.s21 bx b7 e f sm A B A7 c d 2 W4 BC1 BC2 BC3 HE1 HE2 HE3 _ hz_ h52_ h53_ h58_ h59_ h64_ h65_ h3_ h4_ h7_ _) (steps_cons (sizes8.s22 bx b7 e f sm A B A7 c d 2 W4 BC1 BC2 BC3 HE1 HE2 HE3 _ hz_ h52_ h53_ h58_ h59_ h64_ h65_ h3_ h4_ h7_ _) (steps_cons (sizes8.s23 bx b7 e f sm A B A7 c d 2 W4 BC1 BC2 BC3 HE1 HE2 HE3 _ hz_ h52_ h53_ h58_ h59_ h64_ h65_ h3_ h4_ h7_ _) (steps_nil))))))))))))))))))
      exact K_ _ _ rfl rfl rfl rfl rfl rfl rfl rfl rfl rfl
    · rintro b a w' hall ⟨Hs, A3, g4, B5, A9, g10, B11, A15, g16, B17, h10, h11, h12, m3_, m4_, m5_, m9_, m10_, m11_, m15_, m16_, m17_, m18_, m19_, m20_, ha, Q_HB, Q_HS, Q_HV, Q_HU, Q_F3, Q_F4, Q_F5, Q_F9, Q_F10, Q_F11, Q_F15, Q_F16, Q_F17, Q_N18, Q_H18, Q_M21, Q_N19, Q_H19, Q_M22, Q_N20, Q_H20, Q_M23, Q_X3_, Q_X4_, Q_X5_, Q_X9_, Q_X10_, Q_X11_, Q_X15_, Q_X16_, Q_X17_, Q_X18_, Q_X19_, Q_X20_⟩
      clear HB HS HU HV
      have hb2_ := hall 2 (by kernel_rfl)
      have hb3_ := hall 3 (by kernel_rfl)
      have hb4_ := hall 4 (by kernel_rfl)
      have hb5_ := hall 5 (by kernel_rfl)
      have hb8_ := hall 8 (by kernel_rfl)
      have hb9_ := hall 9 (by kernel_rfl)
      have hb10_ := hall 10 (by kernel_rfl)
      have hb11_ := hall 11 (by kernel_rfl)
      have hb14_ := hall 14 (by kernel_rfl)
      have hb15_ := hall 15 (by kernel_rfl)
      have hb16_ := hall 16 (by kernel_rfl)
      have hb17_ := hall 17 (by kernel_rfl)
      have hb18_ := hall 18 (by kernel_rfl)
      have hb19_ := hall 19 (by kernel_rfl)
      have hb20_ := hall 20 (by kernel_rfl)
      have hb21_ := hall 21 (by kernel_rfl)
      have hb22_ := hall 22 (by kernel_rfl)
      have hb23_ := hall 23 (by kernel_rfl)
      subst ha
      obtain rfl := Q_X3_ hb3_
      obtain rfl := Q_X4_ hb4_
      obtain rfl := Q_X5_ hb5_
      obtain rfl := Q_X9_ hb9_
      obtain rfl := Q_X10_ hb10_
      obtain rfl := Q_X11_ hb11_
      obtain rfl := Q_X15_ hb15_
      obtain rfl := Q_X16_ hb16_
      obtain rfl := Q_X17_ hb17_
      obtain rfl := Q_X18_ hb18_
      obtain rfl := Q_X19_ hb19_
      obtain rfl := Q_X20_ hb20_
      simp only [putSel, hb2_, hb3_, hb4_, hb5_, hb8_, hb9_, hb10_, hb11_, hb14_, hb15_, hb16_, hb17_, hb18_, hb19_, hb20_, hb21_, hb22_, hb23_, if_true, Act.put, List.setIfInBounds_toArray, List.set_cons_zero, List.set_cons_succ]
      have HB := Aside0.mk Q_HB
      clear Q_HB
      have HS := Aside0.mk Q_HS
      clear Q_HS
      have HV := Aside0.mk Q_HV
      clear Q_HV
      have HU := Aside0.mk Q_HU
      clear Q_HU
      have F3 := Aside0.mk (Q_F3 hb3_)
      clear Q_F3
      have F4 := Aside0.mk (Q_F4 hb4_)
      clear Q_F4
      have F5 := Aside0.mk (Q_F5 hb5_)
      clear Q_F5
      have F9 := Aside0.mk (Q_F9 hb9_)
      clear Q_F9
      have F10 := Aside0.mk (Q_F10 hb10_)
      clear Q_F10
      have F11 := Aside0.mk (Q_F11 hb11_)
      clear Q_F11
      have F15 := Aside0.mk (Q_F15 hb15_)
      clear Q_F15
      have F16 := Aside0.mk (Q_F16 hb16_)
      clear Q_F16
      have F17 := Aside0.mk (Q_F17 hb17_)
      clear Q_F17
      clear Q_N18
      have H18 := Aside0.mk (Q_H18 hb18_)
      clear Q_H18
      have M21 := Aside0.mk (Q_M21 hb21_)
      clear Q_M21
      clear Q_N19
      have H19 := Aside0.mk (Q_H19 hb19_)
      clear Q_H19
      have M22 := Aside0.mk (Q_M22 hb22_)
      clear Q_M22
      clear Q_N20
      have H20 := Aside0.mk (Q_H20 hb20_)
      clear Q_H20
      have M23 := Aside0.mk (Q_M23 hb23_)
      clear Q_M23
      clear hall hb2_ hb3_ hb4_ hb5_ hb8_ hb9_ hb10_ hb11_ hb14_ hb15_ hb16_ hb17_ hb18_ hb19_ hb20_ hb21_ hb22_ hb23_
      go_wp2
      go_meet
      case rel => exact ⟨h10, h11, h12, B5, B11, B17, rfl, rfl, rfl, ⟨⟨M21.out, M22.out, M23.out⟩, Kd.F_now F5.out, Kd.F_now F11.out, Kd.F_now F17.out⟩, ⟨HB.out⟩⟩
  case rest =>
  obtain ⟨h10, h11, h12, B5, B11, B17, rfl, rfl, rfl, HPM, HB⟩ := hcut
  go_upto_region 9 with (fail)
  refine name_world fun W5 hW5 => ?_
  subst hW5
  obtain ⟨⟨hm1, hm2, hm3⟩, hk1, hk2, hk3⟩ := HPM.out
  have BP1 := Lx.Hd.mk (cellsP_of hm1)
  have BP2 := Lx.Hd.mk (cellsP_of hm2)
  have BP3 := Lx.Hd.mk (cellsP_of hm3)
  obtain ⟨g1, g2, g3, g4, g5, g6⟩ := HSZ.out
  obtain ⟨zA, EzA⟩ : ∃ n : Nat, n = sizeSs [retS e] := ⟨_, rfl⟩
  obtain ⟨zB, EzB⟩ : ∃ n : Nat, n = sizeSs [retS f] := ⟨_, rfl⟩
  obtain ⟨zC, EzC⟩ : ∃ n : Nat, n = sizeSs [retS sm] := ⟨_, rfl⟩
  obtain ⟨dA, EdA⟩ : ∃ n : Nat, n = deepSs [retS e] := ⟨_, rfl⟩
  obtain ⟨dB, EdB⟩ : ∃ n : Nat, n = deepSs [retS f] := ⟨_, rfl⟩
  obtain ⟨dC, EdC⟩ : ∃ n : Nat, n = deepSs [retS sm] := ⟨_, rfl⟩
  obtain ⟨dD, EdD⟩ : ∃ n : Nat, n = deepE sm := ⟨_, rfl⟩
  have tA : zA = 1 + sizeE e := by rw [EzA, size_ret]
  have tB : zB = 1 + sizeE f := by rw [EzB, size_ret]
  have tC : zC = zA + zB := by rw [EzC, size_ret, HSM.out, size_sum, tA, tB]; omega
  have vA : dA = 1 + deepE e := by rw [EdA, deep_ret]
  have vB : dB = 1 + deepE f := by rw [EdB, deep_ret]
  have vC : dC = dD + 1 := by rw [EdC, deep_ret, EdD]; omega
  have vD : dD = max dA dB := by rw [EdD, HSM.out, deep_sum, vA, vB]; omega
  have KSA : Lx.Hd (∀ W', Below W5.heap.size W5 W' → Calls Tryd.prog 27 #[.agg #[.int .i64 1, .slice none 0 0, .slice none 0 0, .slice B5 1 1]] W' fun r W'' => r = .returned (.int .i64 (zA : Int)) ∧ Below W'.heap.size W' W'') := Lx.Hd.mk fun W' hb => by rw [EzA]; exact size1_calls [retS e] (by rw [size_ret]; omega) (by simp) B5 W' (Kd.C_below hk1 hb)
  have KSB : Lx.Hd (∀ W', Below W5.heap.size W5 W' → Calls Tryd.prog 27 #[.agg #[.int .i64 1, .slice none 0 0, .slice none 0 0, .slice B11 1 1]] W' fun r W'' => r = .returned (.int .i64 (zB : Int)) ∧ Below W'.heap.size W' W'') := Lx.Hd.mk fun W' hb => by rw [EzB]; exact size1_calls [retS f] (by rw [size_ret]; omega) (by simp) B11 W' (Kd.C_below hk2 hb)
  have KSC : Lx.Hd (∀ W', Below W5.heap.size W5 W' → Calls Tryd.prog 27 #[.agg #[.int .i64 1, .slice none 0 0, .slice none 0 0, .slice B17 1 1]] W' fun r W'' => r = .returned (.int .i64 (zC : Int)) ∧ Below W'.heap.size W' W'') := Lx.Hd.mk fun W' hb => by rw [EzC]; exact size1_calls [retS sm] (by rw [← EzC]; omega) (by simp) B17 W' (Kd.C_below hk3 hb)
  have KDA : Lx.Hd (∀ W', Below W5.heap.size W5 W' → Calls Tryd.prog 26 #[.agg #[.int .i64 1, .slice none 0 0, .slice none 0 0, .slice B5 1 1]] W' fun r W'' => r = .returned (.int .i64 (dA : Int)) ∧ Below W'.heap.size W' W'') := Lx.Hd.mk fun W' hb => by rw [EdA]; exact deep1_calls [retS e] (by rw [← EdA]; omega) (by simp) B5 W' (Kd.C_below hk1 hb)
  have KDB : Lx.Hd (∀ W', Below W5.heap.size W5 W' → Calls Tryd.prog 26 #[.agg #[.int .i64 1, .slice none 0 0, .slice none 0 0, .slice B11 1 1]] W' fun r W'' => r = .returned (.int .i64 (dB : Int)) ∧ Below W'.heap.size W' W'') := Lx.Hd.mk fun W' hb => by rw [EdB]; exact deep1_calls [retS f] (by rw [← EdB]; omega) (by simp) B11 W' (Kd.C_below hk2 hb)
  have KDC : Lx.Hd (∀ W', Below W5.heap.size W5 W' → Calls Tryd.prog 26 #[.agg #[.int .i64 1, .slice none 0 0, .slice none 0 0, .slice B17 1 1]] W' fun r W'' => r = .returned (.int .i64 (dC : Int)) ∧ Below W'.heap.size W' W'') := Lx.Hd.mk fun W' hb => by rw [EdC]; exact deep1_calls [retS sm] (by rw [← EdC]; omega) (by simp) B17 W' (Kd.C_below hk3 hb)
  have HB5 := Lx.Hd.mk (HB4.out.trans (HB.out.mono HB4.out.size))
  have HG5 := Lx.Hd.mk (Keys.below HG4.out HB.out)
  have BC5 : Lx.Hd (∀ W', Below W5.heap.size W5 W' → CellsE W' bx e A c) := Lx.Hd.mk fun W' hb => BC1.out W' (HB.out.trans (hb.mono HB.out.size))
  have BC7 : Lx.Hd (∀ W', Below W5.heap.size W5 W' → CellsE W' b7 sm A7 2) := Lx.Hd.mk fun W' hb => BC3.out W' (HB.out.trans (hb.mono HB.out.size))
  have BS5 : Lx.Hd (∀ W', Below W5.heap.size W5 W' → CellsS W' bs s D5 D6 D7 D8 D9 d5 d6 d7 d8 d9) := Lx.Hd.mk fun W' hb => BS4.out W' (HB.out.trans (hb.mono HB.out.size))
  have HR5 : Lx.Hd (RowsS W5 s D5 D6 D7 D8 D9) := Lx.Hd.mk (HR4.out.below HB.out)
  have HX1 : Lx.Hd (kE.C W5 A e.f5.length e.f5) := Lx.Hd.mk (Kd.C_below (Kd.F_now HE1.out.2) HB.out)
  have HX3 : Lx.Hd (sm.f5.length ≤ 2 ∧ kE.C W5 A7 sm.f5.length sm.f5) := Lx.Hd.mk ⟨HE3.out.1, Kd.C_below (Kd.F_now HE3.out.2) HB.out⟩
  have HT := Lx.Hd.mk (And.intro tA (And.intro tB (And.intro tC (And.intro vA (And.intro vB (And.intro vC vD))))))
  have i1 : zA ≤ 400 := by omega
  have i2 : zB ≤ 400 := by omega
  have i3 : zC ≤ 800 := by omega
  have i4 : dA ≤ 400 := by omega
  have i5 : dB ≤ 400 := by omega
  have i6 : dC ≤ 402 := by omega
  have wM : IntKind.i64.wrap ((if (dA : Int) < (dB : Int) then (dB : Int) else (dA : Int)) + 1) = (dC : Int) := by rw [vC, vD]; split <;> (rw [IntWalk.i64_in _ (by omega)]; omega)
  have wS : IntKind.i64.wrap ((zA : Int) + (zB : Int)) = (zC : Int) := by rw [tC, IntWalk.i64_in _ (by omega)]; omega
  have wD : IntKind.i64.wrap ((dC : Int) - 1) = (dD : Int) := by rw [vC, IntWalk.i64_in _ (by omega)]; omega
  have HW := Lx.Hd.mk (And.intro wM (And.intro wS wD))
  clear tA tB tC vA vB vC vD g1 g2 g3 g4 g5 g6 EzA EzB EzC EdA EdB EdC EdD wM wS wD hm1 hm2 hm3 hk1 hk2 hk3 HPM HB HB4 HG4 BC1 BC2 BC3 BS4 HR4 HE1 HE2 HE3 hpos
  have HB : Lx.Hd (Below W5.heap.size W5 W5) := Lx.Hd.mk (Below.refl _ _)
  go_cut [13] (fun v13 wc => v13 = .int .i64 (dC : Int) ∧ Lx.Hd (Below W5.heap.size W5 wc))
  case first =>
    rename_i Kq hKq Jq Kq1 hJq hKq1
    clear hKq
    clear Kq
    clear KSA KSB KSC KDC BC5 BC7 BS5 HR5 HX1 HX3 HT HB5 HG5 HSM HC123 HSZ HPQ HLN BP3
    have wM := HW.out.1
    obtain ⟨p0, p1, p2, p3⟩ := BP1.out _ HB.out
    obtain ⟨q0, q1, q2, q3⟩ := BP2.out _ HB.out
    go_region_held3 (fun w' => w'.cell? ⟨h10, 0, none⟩ = some (.int .i64 1) ∧ w'.cell? ⟨h10, 1, none⟩ = some (.slice none 0 0) ∧ w'.cell? ⟨h10, 2, none⟩ = some (.slice none 0 0) ∧ w'.cell? ⟨h10, 3, none⟩ = some (.slice B5 1 1) ∧ w'.cell? ⟨h11, 0, none⟩ = some (.int .i64 1) ∧ w'.cell? ⟨h11, 1, none⟩ = some (.slice none 0 0) ∧ w'.cell? ⟨h11, 2, none⟩ = some (.slice none 0 0) ∧ w'.cell? ⟨h11, 3, none⟩ = some (.slice B11 1 1)) (first | go_keep | (have y0_ := BP1.out _ (by repeat (first | (with_reducible first | exact HB.out | apply below_alloc | apply pw_below_drewN | apply below_drew) | exact HB.out)); have y1_ := BP2.out _ (by repeat (first | (with_reducible first | exact HB.out | apply below_alloc | apply pw_below_drewN | apply below_drew) | exact HB.out)); exact ⟨y0_.1, y0_.2.1, y0_.2.2.1, y0_.2.2.2, y1_.1, y1_.2.1, y1_.2.2.1, y1_.2.2.2⟩)) (first | (go_at_call 26; (with_reducible refine (KDA.out _ ?s1).mono ?_); (case s1 => exact (by repeat (first | (with_reducible first | exact HB.out | apply below_alloc | apply pw_below_drewN | apply below_drew) | exact HB.out))); rintro r W6 ⟨rfl, hb⟩; have hn_ := Lx.Hd.mk (below_step (by repeat (first | (with_reducible first | exact HB.out | apply below_alloc | apply pw_below_drewN | apply below_drew) | exact HB.out)) hb); clear hb HB; have HB := hn_; clear hn_) | (go_at_call 26; (with_reducible refine (KDB.out _ ?s1).mono ?_); (case s1 => exact (by repeat (first | (with_reducible first | exact HB.out | apply below_alloc | apply pw_below_drewN | apply below_drew) | exact HB.out))); rintro r W6 ⟨rfl, hb⟩; have hn_ := Lx.Hd.mk (below_step (by repeat (first | (with_reducible first | exact HB.out | apply below_alloc | apply pw_below_drewN | apply below_drew) | exact HB.out)) hb); clear hb HB; have HB := hn_; clear hn_) | fail)
    go_wp2
    all_goals
      go_meet
      case rel => exact ⟨by rw [← wM]; split <;> first | rfl | omega, HB⟩
  case rest =>
  obtain ⟨rfl, HB⟩ := hcut
  go_upto_region 10 with (fail)
  obtain ⟨uA, uB, uC, wA, wB, wC, wD0⟩ := HT.out
  obtain ⟨cs1, cs2, cs3⟩ := HC123.out
  obtain ⟨y1, y2, y3, y4, y5, y6⟩ := HSZ.out
  obtain ⟨nS, hnS⟩ : ∃ n, checkN [.ex sm] = n := ⟨_, rfl⟩
  have hsum : (nS == 0) = decide ((dD : Int) ≤ 60) := by
    have h := check_sum e f cs1 cs2 y1 y2
    rw [← HSM.out, hnS] at h
    rw [h]
    have h2 : dD = 1 + max (deepE e) (deepE f) := by omega
    rw [h2]
    by_cases h3 : 1 + max (deepE e) (deepE f) ≤ 60
    · rw [decide_eq_true h3, decide_eq_true (by omega)]
    · rw [decide_eq_false h3, decide_eq_false (by omega)]
  have FSM : Lx.Hd (fitB (.ex sm) = true) := Lx.Hd.mk (by
    refine fit_of ?_ ?_ ?_
    · show sizeE sm < _; rw [HSM.out, size_sum]; omega
    · show deepE sm < _; rw [HSM.out, deep_sum]; omega
    · rw [HSM.out]; exact .mk _ (show (0 : Nat) ≤ 140737488351232 by omega) (fun y hy => by
        obtain ⟨z, hz, rfl⟩ := List.mem_map.1 hy
        rcases List.mem_cons.1 hz with rfl | hz
        · exact HPQ.out.1
        · obtain rfl := List.mem_singleton.1 hz; exact HPQ.out.2.1))
  have KCS : Lx.Hd (∀ W', Below W5.heap.size W5 W' → Calls Tryd.prog 16 #[.agg #[.int .i64 sm.f0, .int .i64 sm.f1, .int .i64 sm.f2, .int .u32 sm.f3, .string sm.f4, .slice A7 sm.f5.length 2]] W' fun r W'' => r = .returned (.int .i64 nS) ∧ Below W'.heap.size W' W'') := Lx.Hd.mk fun W' hb => by
    have h := check_calls sm FSM.out A7 2 W' (Keys.below HG5.out hb) HX3.out.1 (Kd.C_below HX3.out.2 hb)
    rw [hnS] at h; exact h
  clear uA uB uC wA wB wC wD0 cs1 cs2 cs3 y1 y2 y3 y4 y5 y6 hnS
  go_cut [98] (fun v98 wc => v98 = .bool false ∧ Lx.Hd (Below W5.heap.size W5 wc))
  case first =>
    rename_i Kq hKq Jq Kq1 hJq hKq1
    clear hKq
    clear Kq
    clear KDA KDB BC5 BS5 HR5 HX1 HT HB5 HG5 HSM HC123 HSZ HPQ HLN FSM i1 i2 i4 i5
    have wS := HW.out.2.1
    have wD := HW.out.2.2
    obtain ⟨p0, p1, p2, p3⟩ := BP1.out _ HB.out
    obtain ⟨q0, q1, q2, q3⟩ := BP2.out _ HB.out
    obtain ⟨r0, r1, r2, r3⟩ := BP3.out _ HB.out
    obtain ⟨s0, s1, s2, s3, s4, s5⟩ := BC7.out _ HB.out
    by_cases h60 : (dD : Int) ≤ 60
    rotate_left
    all_goals
      first | (rw [decide_eq_true h60] at hsum; have d60 := decide_eq_true h60) | (rw [decide_eq_false h60] at hsum; have d60 := decide_eq_false h60)
      go_region_held3 (fun w' => w'.cell? ⟨h10, 0, none⟩ = some (.int .i64 1) ∧ w'.cell? ⟨h10, 1, none⟩ = some (.slice none 0 0) ∧ w'.cell? ⟨h10, 2, none⟩ = some (.slice none 0 0) ∧ w'.cell? ⟨h10, 3, none⟩ = some (.slice B5 1 1) ∧ w'.cell? ⟨h11, 0, none⟩ = some (.int .i64 1) ∧ w'.cell? ⟨h11, 1, none⟩ = some (.slice none 0 0) ∧ w'.cell? ⟨h11, 2, none⟩ = some (.slice none 0 0) ∧ w'.cell? ⟨h11, 3, none⟩ = some (.slice B11 1 1) ∧ w'.cell? ⟨h12, 0, none⟩ = some (.int .i64 1) ∧ w'.cell? ⟨h12, 1, none⟩ = some (.slice none 0 0) ∧ w'.cell? ⟨h12, 2, none⟩ = some (.slice none 0 0) ∧ w'.cell? ⟨h12, 3, none⟩ = some (.slice B17 1 1) ∧ w'.cell? ⟨b7, 0, none⟩ = some (.int .i64 sm.f0) ∧ w'.cell? ⟨b7, 1, none⟩ = some (.int .i64 sm.f1) ∧ w'.cell? ⟨b7, 2, none⟩ = some (.int .i64 sm.f2) ∧ w'.cell? ⟨b7, 3, none⟩ = some (.int .u32 sm.f3) ∧ w'.cell? ⟨b7, 4, none⟩ = some (.string sm.f4) ∧ w'.cell? ⟨b7, 5, none⟩ = some (.slice A7 sm.f5.length 2)) (first | go_keep | (have y0_ := BP1.out _ (by repeat (first | (with_reducible first | exact HB.out | apply below_alloc | apply pw_below_drewN | apply below_drew) | exact HB.out)); have y1_ := BP2.out _ (by repeat (first | (with_reducible first | exact HB.out | apply below_alloc | apply pw_below_drewN | apply below_drew) | exact HB.out)); have y2_ := BP3.out _ (by repeat (first | (with_reducible first | exact HB.out | apply below_alloc | apply pw_below_drewN | apply below_drew) | exact HB.out)); have y3_ := BC7.out _ (by repeat (first | (with_reducible first | exact HB.out | apply below_alloc | apply pw_below_drewN | apply below_drew) | exact HB.out)); exact ⟨y0_.1, y0_.2.1, y0_.2.2.1, y0_.2.2.2, y1_.1, y1_.2.1, y1_.2.2.1, y1_.2.2.2, y2_.1, y2_.2.1, y2_.2.2.1, y2_.2.2.2, y3_.1, y3_.2.1, y3_.2.2.1, y3_.2.2.2.1, y3_.2.2.2.2.1, y3_.2.2.2.2.2⟩)) (first | (go_at_call 27; (with_reducible refine (KSA.out _ ?s1).mono ?_); (case s1 => exact (by repeat (first | (with_reducible first | exact HB.out | apply below_alloc | apply pw_below_drewN | apply below_drew) | exact HB.out))); rintro r W6 ⟨rfl, hb⟩; have hn_ := Lx.Hd.mk (below_step (by repeat (first | (with_reducible first | exact HB.out | apply below_alloc | apply pw_below_drewN | apply below_drew) | exact HB.out)) hb); clear hb HB; have HB := hn_; clear hn_) | (go_at_call 27; (with_reducible refine (KSB.out _ ?s1).mono ?_); (case s1 => exact (by repeat (first | (with_reducible first | exact HB.out | apply below_alloc | apply pw_below_drewN | apply below_drew) | exact HB.out))); rintro r W6 ⟨rfl, hb⟩; have hn_ := Lx.Hd.mk (below_step (by repeat (first | (with_reducible first | exact HB.out | apply below_alloc | apply pw_below_drewN | apply below_drew) | exact HB.out)) hb); clear hb HB; have HB := hn_; clear hn_) | (go_at_call 27; (with_reducible refine (KSC.out _ ?s1).mono ?_); (case s1 => exact (by repeat (first | (with_reducible first | exact HB.out | apply below_alloc | apply pw_below_drewN | apply below_drew) | exact HB.out))); rintro r W6 ⟨rfl, hb⟩; have hn_ := Lx.Hd.mk (below_step (by repeat (first | (with_reducible first | exact HB.out | apply below_alloc | apply pw_below_drewN | apply below_drew) | exact HB.out)) hb); clear hb HB; have HB := hn_; clear hn_) | (go_at_call 26; (with_reducible refine (KDC.out _ ?s1).mono ?_); (case s1 => exact (by repeat (first | (with_reducible first | exact HB.out | apply below_alloc | apply pw_below_drewN | apply below_drew) | exact HB.out))); rintro r W6 ⟨rfl, hb⟩; have hn_ := Lx.Hd.mk (below_step (by repeat (first | (with_reducible first | exact HB.out | apply below_alloc | apply pw_below_drewN | apply below_drew) | exact HB.out)) hb); clear hb HB; have HB := hn_; clear hn_) | (go_at_call 16; (with_reducible refine (KCS.out _ ?s1).mono ?_); (case s1 => exact (by repeat (first | (with_reducible first | exact HB.out | apply below_alloc | apply pw_below_drewN | apply below_drew) | exact HB.out))); rintro r W6 ⟨rfl, hb⟩; have hn_ := Lx.Hd.mk (below_step (by repeat (first | (with_reducible first | exact HB.out | apply below_alloc | apply pw_below_drewN | apply below_drew) | exact HB.out)) hb); clear hb HB; have HB := hn_; clear hn_) | fail)
      all_goals
        go_wp2
        go_meet
        case rel => exact ⟨by first | rfl | (rw [hsum, d60]; rfl) | (simp only [hsum, d60]; done) | (simp only [hsum, d60]; rfl) | (simp [hsum, h60]; done) | (simp [hsum]; omega), HB⟩
  case rest =>
  obtain ⟨rfl, HB⟩ := hcut
  go_upto_region 12 with (fail)
  clear KDB KDC KSB KSC KCS FSM hsum BC7 HX3 BP2 BP3 HW i2 i3 i5 i6
  obtain ⟨p0, p1, p2, p3, p4, p5⟩ := BC5.out _ HB.out
  obtain ⟨s0, s1, s2, s3, s4, s5, s6, s7, s8, s9⟩ := BS5.out _ HB.out
  go_upto_region 13 with (first | (go_at_call 25; (with_reducible refine (prog_closC1 s _ _ ?s1).mono ?_); (case s1 => exact row1 kS rfl (mkS (HR5.out.below (by repeat (first | (with_reducible first | exact HB.out | apply below_alloc | apply pw_below_drewN | apply below_drew) | exact HB.out))) HLN.out) (World.alloc_heap_new _ _)); rintro r Y1 ⟨BY1, rfl, hkY1, hb⟩; have hn_ := Lx.Hd.mk (below_step (by repeat (first | (with_reducible first | exact HB.out | apply below_alloc | apply pw_below_drewN | apply below_drew) | exact HB.out)) hb); clear HB; have HB := hn_; clear hn_; clear hb; clear p0 p1 p2 p3 p4 p5 s0 s1 s2 s3 s4 s5 s6 s7 s8 s9; obtain ⟨p0, p1, p2, p3, p4, p5⟩ := BC5.out _ HB.out; obtain ⟨s0, s1, s2, s3, s4, s5, s6, s7, s8, s9⟩ := BS5.out _ HB.out) | fail)
  refine name_world fun VY1 hV => ?_
  have hBv : Below W5.heap.size W5 VY1 := by rw [hV]; exact below_alloc HB.out _
  have BQY1 := Lx.Hd.mk (cellsP_of (show VY1.heap[Y1.heap.size]? = some (.cells #[.int .i64 1, .slice none 0 0, .slice none 0 0, .slice BY1 1 1] 46 (0, 0)) by rw [hV]; exact World.alloc_heap_new _ _))
  have HKY1 : Lx.Hd (kD.C VY1 BY1 1 [mainD [s]]) := Lx.Hd.mk (by rw [hV]; exact Kd.C_alloc hkY1 _)
  skip
  clear hV hkY1 HB
  clear p0 p1 p2 p3 p4 p5 s0 s1 s2 s3 s4 s5 s6 s7 s8 s9
  have HB : Lx.Hd (Below W5.heap.size W5 VY1) := Lx.Hd.mk hBv
  clear hBv
  generalize Y1.heap.size = hY1 at BQY1 ⊢
  have HDY1 : Lx.Hd (Below VY1.heap.size VY1 VY1) := Lx.Hd.mk (Below.refl _ _)
  obtain ⟨p0, p1, p2, p3, p4, p5⟩ := BC5.out _ HB.out
  obtain ⟨s0, s1, s2, s3, s4, s5, s6, s7, s8, s9⟩ := BS5.out _ HB.out
  have lt5 : bs < VY1.heap.size := World.block_lt_of_cell? VY1 _ s0
  have ne1 : bs ≠ VY1.heap.size := by omega
  have ne2 : bs ≠ VY1.heap.size + 1 := by omega
  have ne3 : bs ≠ VY1.heap.size + 2 := by omega
  go_upto_region 14 with (first | (go_at_call 25; (with_reducible refine (prog_closC1 (ifS e s) _ _ ?s1).mono ?_); (case s1 => exact row_if hl (Kd.C_below HX1.out HB.out) (HR5.out.below HB.out) HLN.out); rintro r Y2 ⟨BY2, rfl, hkY2, hb⟩; have hn_ := Lx.Hd.mk (below_step (by repeat (first | (with_reducible first | exact HB.out | apply below_alloc | apply pw_below_drewN | apply below_drew) | exact HB.out)) hb); clear HB; have HB := hn_; clear hn_; have hn_ := Lx.Hd.mk (below_step (by repeat (first | (with_reducible first | exact HDY1.out | apply below_alloc | apply pw_below_drewN | apply below_drew) | exact HDY1.out)) hb); clear HDY1; have HDY1 := hn_; clear hn_; clear hb; clear p0 p1 p2 p3 p4 p5 s0 s1 s2 s3 s4 s5 s6 s7 s8 s9; obtain ⟨p0, p1, p2, p3, p4, p5⟩ := BC5.out _ HB.out; obtain ⟨s0, s1, s2, s3, s4, s5, s6, s7, s8, s9⟩ := BS5.out _ HB.out) | fail)
  refine name_world fun VY2 hV => ?_
  have hBv : Below W5.heap.size W5 VY2 := by rw [hV]; exact below_alloc HB.out _
  have BQY2 := Lx.Hd.mk (cellsP_of (show VY2.heap[Y2.heap.size]? = some (.cells #[.int .i64 1, .slice none 0 0, .slice none 0 0, .slice BY2 1 1] 46 (0, 0)) by rw [hV]; exact World.alloc_heap_new _ _))
  have HKY2 : Lx.Hd (kD.C VY2 BY2 1 [mainD [ifS e s]]) := Lx.Hd.mk (by rw [hV]; exact Kd.C_alloc hkY2 _)
  have hq_ := Lx.Hd.mk (show Below VY1.heap.size VY1 VY2 from by rw [hV]; exact below_alloc HDY1.out _)
  clear HDY1
  have HDY1 := hq_
  clear hq_
  clear hV hkY2 HB
  clear p0 p1 p2 p3 p4 p5 s0 s1 s2 s3 s4 s5 s6 s7 s8 s9
  have HB : Lx.Hd (Below W5.heap.size W5 VY2) := Lx.Hd.mk hBv
  clear hBv
  generalize Y2.heap.size = hY2 at BQY2 ⊢
  have HDY2 : Lx.Hd (Below VY2.heap.size VY2 VY2) := Lx.Hd.mk (Below.refl _ _)
  obtain ⟨p0, p1, p2, p3, p4, p5⟩ := BC5.out _ HB.out
  obtain ⟨s0, s1, s2, s3, s4, s5, s6, s7, s8, s9⟩ := BS5.out _ HB.out
  go_upto_region 15 with (first | (go_at_call 25; (with_reducible refine (prog_closC2 s s _ _ ?s1).mono ?_); (case s1 => exact row2 kS rfl rfl (mkS (HR5.out.below (by repeat (first | (with_reducible first | exact HB.out | apply below_alloc | apply pw_below_drewN | apply below_drew) | exact HB.out))) HLN.out) (mkS (HR5.out.below (by repeat (first | (with_reducible first | exact HB.out | apply below_alloc | apply pw_below_drewN | apply below_drew) | exact HB.out))) HLN.out) (World.alloc_heap_new _ _)); rintro r Y3 ⟨BY3, rfl, hkY3, hb⟩; have hn_ := Lx.Hd.mk (below_step (by repeat (first | (with_reducible first | exact HB.out | apply below_alloc | apply pw_below_drewN | apply below_drew) | exact HB.out)) hb); clear HB; have HB := hn_; clear hn_; have hn_ := Lx.Hd.mk (below_step (by repeat (first | (with_reducible first | exact HDY1.out | apply below_alloc | apply pw_below_drewN | apply below_drew) | exact HDY1.out)) hb); clear HDY1; have HDY1 := hn_; clear hn_; have hn_ := Lx.Hd.mk (below_step (by repeat (first | (with_reducible first | exact HDY2.out | apply below_alloc | apply pw_below_drewN | apply below_drew) | exact HDY2.out)) hb); clear HDY2; have HDY2 := hn_; clear hn_; clear hb; clear p0 p1 p2 p3 p4 p5 s0 s1 s2 s3 s4 s5 s6 s7 s8 s9; obtain ⟨p0, p1, p2, p3, p4, p5⟩ := BC5.out _ HB.out; obtain ⟨s0, s1, s2, s3, s4, s5, s6, s7, s8, s9⟩ := BS5.out _ HB.out) | fail)
  refine name_world fun VY3 hV => ?_
  have hBv : Below W5.heap.size W5 VY3 := by rw [hV]; exact below_alloc HB.out _
  have BQY3 := Lx.Hd.mk (cellsP_of (show VY3.heap[Y3.heap.size]? = some (.cells #[.int .i64 1, .slice none 0 0, .slice none 0 0, .slice BY3 1 1] 46 (0, 0)) by rw [hV]; exact World.alloc_heap_new _ _))
  have HKY3 : Lx.Hd (kD.C VY3 BY3 1 [mainD [s, s]]) := Lx.Hd.mk (by rw [hV]; exact Kd.C_alloc hkY3 _)
  have hq_ := Lx.Hd.mk (show Below VY1.heap.size VY1 VY3 from by rw [hV]; exact below_alloc HDY1.out _)
  clear HDY1
  have HDY1 := hq_
  clear hq_
  have hq_ := Lx.Hd.mk (show Below VY2.heap.size VY2 VY3 from by rw [hV]; exact below_alloc HDY2.out _)
  clear HDY2
  have HDY2 := hq_
  clear hq_
  clear hV hkY3 HB
  clear p0 p1 p2 p3 p4 p5 s0 s1 s2 s3 s4 s5 s6 s7 s8 s9
  have HB : Lx.Hd (Below W5.heap.size W5 VY3) := Lx.Hd.mk hBv
  clear hBv
  generalize Y3.heap.size = hY3 at BQY3 ⊢
  have HDY3 : Lx.Hd (Below VY3.heap.size VY3 VY3) := Lx.Hd.mk (Below.refl _ _)
  obtain ⟨p0, p1, p2, p3, p4, p5⟩ := BC5.out _ HB.out
  obtain ⟨s0, s1, s2, s3, s4, s5, s6, s7, s8, s9⟩ := BS5.out _ HB.out
  obtain ⟨y1, y2, y3, y4, y5, y6⟩ := HSZ.out
  obtain ⟨uA, uB, uC, wA, wB, wC, wD0⟩ := HT.out
  obtain ⟨zX, EzX⟩ : ∃ n : Nat, n = sizeSs [s] := ⟨_, rfl⟩
  obtain ⟨zY, EzY⟩ : ∃ n : Nat, n = sizeSs [ifS e s] := ⟨_, rfl⟩
  obtain ⟨zZ, EzZ⟩ : ∃ n : Nat, n = sizeSs [s, s] := ⟨_, rfl⟩
  obtain ⟨dX, EdX⟩ : ∃ n : Nat, n = deepSs [s] := ⟨_, rfl⟩
  obtain ⟨dY, EdY⟩ : ∃ n : Nat, n = deepSs [ifS e s] := ⟨_, rfl⟩
  obtain ⟨dZ, EdZ⟩ : ∃ n : Nat, n = deepSs [s, s] := ⟨_, rfl⟩
  obtain ⟨z3, Ez3⟩ : ∃ n : Nat, n = 3 * zX := ⟨_, rfl⟩
  obtain ⟨d1, Ed1⟩ : ∃ n : Nat, n = deepE e := ⟨_, rfl⟩
  have x1 : zX = sizeS s := by rw [EzX, sizeSs, sizeSs]; omega
  have x2 : zY = z3 + zA := by rw [EzY, size_if, Ez3, x1, uA]; omega
  have x3 : zZ = 2 * zX := by rw [EzZ, sizeSs, sizeSs, sizeSs, x1]; omega
  have x4 : dX = deepS s := by rw [EdX, deepSs, deepSs]; omega
  have x5 : dY = 1 + max dX d1 := by rw [EdY, deep_if, x4, Ed1]; omega
  have x6 : dZ = dX := by rw [EdZ, deepSs, deepSs, deepSs, x4]; omega
  have x7 : dA = d1 + 1 := by rw [Ed1]; omega
  have KZX : Lx.Hd (∀ W', Below VY3.heap.size VY3 W' → Calls Tryd.prog 27 #[.agg #[.int .i64 1, .slice none 0 0, .slice none 0 0, .slice BY1 1 1]] W' fun r W'' => r = .returned (.int .i64 (zX : Int)) ∧ Below W'.heap.size W' W'') := Lx.Hd.mk fun W' hb => by rw [EzX]; exact size1_calls ([s]) (by rw [← EzX]; omega) (by simp) BY1 W' (Kd.C_below (Kd.C_below HKY1.out HDY1.out) hb)
  have KZY : Lx.Hd (∀ W', Below VY3.heap.size VY3 W' → Calls Tryd.prog 27 #[.agg #[.int .i64 1, .slice none 0 0, .slice none 0 0, .slice BY2 1 1]] W' fun r W'' => r = .returned (.int .i64 (zY : Int)) ∧ Below W'.heap.size W' W'') := Lx.Hd.mk fun W' hb => by rw [EzY]; exact size1_calls ([ifS e s]) (by rw [← EzY]; omega) (by simp) BY2 W' (Kd.C_below (Kd.C_below HKY2.out HDY2.out) hb)
  have KZZ : Lx.Hd (∀ W', Below VY3.heap.size VY3 W' → Calls Tryd.prog 27 #[.agg #[.int .i64 1, .slice none 0 0, .slice none 0 0, .slice BY3 1 1]] W' fun r W'' => r = .returned (.int .i64 (zZ : Int)) ∧ Below W'.heap.size W' W'') := Lx.Hd.mk fun W' hb => by rw [EzZ]; exact size1_calls ([s, s]) (by rw [← EzZ]; omega) (by simp) BY3 W' (Kd.C_below HKY3.out hb)
  have KWX : Lx.Hd (∀ W', Below VY3.heap.size VY3 W' → Calls Tryd.prog 26 #[.agg #[.int .i64 1, .slice none 0 0, .slice none 0 0, .slice BY1 1 1]] W' fun r W'' => r = .returned (.int .i64 (dX : Int)) ∧ Below W'.heap.size W' W'') := Lx.Hd.mk fun W' hb => by rw [EdX]; exact deep1_calls ([s]) (by rw [← EdX]; omega) (by simp) BY1 W' (Kd.C_below (Kd.C_below HKY1.out HDY1.out) hb)
  have KWY : Lx.Hd (∀ W', Below VY3.heap.size VY3 W' → Calls Tryd.prog 26 #[.agg #[.int .i64 1, .slice none 0 0, .slice none 0 0, .slice BY2 1 1]] W' fun r W'' => r = .returned (.int .i64 (dY : Int)) ∧ Below W'.heap.size W' W'') := Lx.Hd.mk fun W' hb => by rw [EdY]; exact deep1_calls ([ifS e s]) (by rw [← EdY]; omega) (by simp) BY2 W' (Kd.C_below (Kd.C_below HKY2.out HDY2.out) hb)
  have KWZ : Lx.Hd (∀ W', Below VY3.heap.size VY3 W' → Calls Tryd.prog 26 #[.agg #[.int .i64 1, .slice none 0 0, .slice none 0 0, .slice BY3 1 1]] W' fun r W'' => r = .returned (.int .i64 (dZ : Int)) ∧ Below W'.heap.size W' W'') := Lx.Hd.mk fun W' hb => by rw [EdZ]; exact deep1_calls ([s, s]) (by rw [← EdZ]; omega) (by simp) BY3 W' (Kd.C_below HKY3.out hb)
  have KZA : Lx.Hd (∀ W', Below VY3.heap.size VY3 W' → Calls Tryd.prog 27 #[.agg #[.int .i64 1, .slice none 0 0, .slice none 0 0, .slice B5 1 1]] W' fun r W'' => r = .returned (.int .i64 (zA : Int)) ∧ Below W'.heap.size W' W'') := Lx.Hd.mk fun W' hb => KSA.out W' (HB.out.trans (hb.mono HB.out.size))
  have KWA : Lx.Hd (∀ W', Below VY3.heap.size VY3 W' → Calls Tryd.prog 26 #[.agg #[.int .i64 1, .slice none 0 0, .slice none 0 0, .slice B5 1 1]] W' fun r W'' => r = .returned (.int .i64 (dA : Int)) ∧ Below W'.heap.size W' W'') := Lx.Hd.mk fun W' hb => KDA.out W' (HB.out.trans (hb.mono HB.out.size))
  have HBX := Lx.Hd.mk (HB5.out.trans (HB.out.mono HB5.out.size))
  have BPA : Lx.Hd (∀ W', Below VY3.heap.size VY3 W' → CellsP W' h10 B5) := Lx.Hd.mk fun W' hb => BP1.out W' (HB.out.trans (hb.mono HB.out.size))
  have BPX : Lx.Hd (∀ W', Below VY3.heap.size VY3 W' → CellsP W' hY1 BY1) := Lx.Hd.mk fun W' hb => BQY1.out W' (HDY1.out.trans (hb.mono HDY1.out.size))
  have BPY : Lx.Hd (∀ W', Below VY3.heap.size VY3 W' → CellsP W' hY2 BY2) := Lx.Hd.mk fun W' hb => BQY2.out W' (HDY2.out.trans (hb.mono HDY2.out.size))
  have BPZ := BQY3
  have w1 : IntKind.i64.wrap (3 * (zX : Int)) = (z3 : Int) := by rw [Ez3, IntWalk.i64_in _ (by omega)]; omega
  have w2 : IntKind.i64.wrap ((z3 : Int) + (zA : Int)) = (zY : Int) := by rw [x2, IntWalk.i64_in _ (by omega)]; omega
  have w3 : IntKind.i64.wrap ((dA : Int) - 1) = (d1 : Int) := by rw [x7, IntWalk.i64_in _ (by omega)]; omega
  have w5 : IntKind.i64.wrap (2 * (zX : Int)) = (zZ : Int) := by rw [x3, IntWalk.i64_in _ (by omega)]; omega
  have w4 : (¬ (dX : Int) < (d1 : Int) → IntKind.i64.wrap (1 + (dX : Int)) = (dY : Int)) ∧ ((dX : Int) < (d1 : Int) → IntKind.i64.wrap (1 + (d1 : Int)) = (dY : Int)) := ⟨fun h => by rw [x5, IntWalk.i64_in _ (by omega)]; omega, fun h => by rw [x5, IntWalk.i64_in _ (by omega)]; omega⟩
  have HW4 := Lx.Hd.mk w4
  rw [x6] at KWZ
  clear EzX EzY EzZ EdX EdY EdZ Ez3 Ed1 x1 x2 x3 x4 x5 x6 x7 uA uB uC wA wB wC wD0 y1 y2 y3 y4 y5 y6 w4 HB5 HB BP1 BQY1 BQY2 BQY3 HDY1 HDY2 HDY3 HKY1 HKY2 HKY3 KSA KDA BC5 BS5 HR5 HX1 HT HG5 HSM HC123 HSZ HPQ HLN p0 p1 p2 p3 p4 p5 s0 s1 s2 s3 s4 s5 s6 s7 s8 s9 lt5 ne1 ne2 ne3 i1 i4
  have HB : Lx.Hd (Below VY3.heap.size VY3 VY3) := Lx.Hd.mk (Below.refl _ _)
  go_cut [6] (fun v6 wc => v6 = .bool true ∧ Lx.Hd (Below VY3.heap.size VY3 wc))
  case first =>
    rename_i Kq hKq Jq Kq1 hJq hKq1
    clear hKq
    clear Kq
    clear HBX
    obtain ⟨p0, p1, p2, p3⟩ := BPA.out _ HB.out
    obtain ⟨q0, q1, q2, q3⟩ := BPX.out _ HB.out
    obtain ⟨r0, r1, r2, r3⟩ := BPY.out _ HB.out
    obtain ⟨s0, s1, s2, s3⟩ := BPZ.out _ HB.out
    by_cases hxn : dX < d1
    rotate_left
    all_goals
      first | (have hxd : (dX : Int) < (d1 : Int) := (by omega); have w4 := HW4.out.2 hxd; have hxe := decide_eq_true hxd) | (have hxd : ¬ (dX : Int) < (d1 : Int) := (by omega); have w4 := HW4.out.1 hxd; have hxe := decide_eq_false hxd; have hxf : (if (dX : Int) < (d1 : Int) then (d1 : Int) else (dX : Int)) = (dX : Int) := if_neg hxd)
      go_region_held3 (fun w' => w'.cell? ⟨h10, 0, none⟩ = some (.int .i64 1) ∧ w'.cell? ⟨h10, 1, none⟩ = some (.slice none 0 0) ∧ w'.cell? ⟨h10, 2, none⟩ = some (.slice none 0 0) ∧ w'.cell? ⟨h10, 3, none⟩ = some (.slice B5 1 1) ∧ w'.cell? ⟨hY1, 0, none⟩ = some (.int .i64 1) ∧ w'.cell? ⟨hY1, 1, none⟩ = some (.slice none 0 0) ∧ w'.cell? ⟨hY1, 2, none⟩ = some (.slice none 0 0) ∧ w'.cell? ⟨hY1, 3, none⟩ = some (.slice BY1 1 1) ∧ w'.cell? ⟨hY2, 0, none⟩ = some (.int .i64 1) ∧ w'.cell? ⟨hY2, 1, none⟩ = some (.slice none 0 0) ∧ w'.cell? ⟨hY2, 2, none⟩ = some (.slice none 0 0) ∧ w'.cell? ⟨hY2, 3, none⟩ = some (.slice BY2 1 1) ∧ w'.cell? ⟨hY3, 0, none⟩ = some (.int .i64 1) ∧ w'.cell? ⟨hY3, 1, none⟩ = some (.slice none 0 0) ∧ w'.cell? ⟨hY3, 2, none⟩ = some (.slice none 0 0) ∧ w'.cell? ⟨hY3, 3, none⟩ = some (.slice BY3 1 1)) (first | go_keep | (have y0_ := BPA.out _ (by repeat (first | (with_reducible first | exact HB.out | apply below_alloc | apply pw_below_drewN | apply below_drew) | exact HB.out)); have y1_ := BPX.out _ (by repeat (first | (with_reducible first | exact HB.out | apply below_alloc | apply pw_below_drewN | apply below_drew) | exact HB.out)); have y2_ := BPY.out _ (by repeat (first | (with_reducible first | exact HB.out | apply below_alloc | apply pw_below_drewN | apply below_drew) | exact HB.out)); have y3_ := BPZ.out _ (by repeat (first | (with_reducible first | exact HB.out | apply below_alloc | apply pw_below_drewN | apply below_drew) | exact HB.out)); exact ⟨y0_.1, y0_.2.1, y0_.2.2.1, y0_.2.2.2, y1_.1, y1_.2.1, y1_.2.2.1, y1_.2.2.2, y2_.1, y2_.2.1, y2_.2.2.1, y2_.2.2.2, y3_.1, y3_.2.1, y3_.2.2.1, y3_.2.2.2⟩)) (first | (go_at_call 27; (with_reducible refine (KZX.out _ ?s1).mono ?_); (case s1 => exact (by repeat (first | (with_reducible first | exact HB.out | apply below_alloc | apply pw_below_drewN | apply below_drew) | exact HB.out))); rintro r W6 ⟨rfl, hb⟩; have hn_ := Lx.Hd.mk (below_step (by repeat (first | (with_reducible first | exact HB.out | apply below_alloc | apply pw_below_drewN | apply below_drew) | exact HB.out)) hb); clear hb HB; have HB := hn_; clear hn_) | (go_at_call 27; (with_reducible refine (KZY.out _ ?s1).mono ?_); (case s1 => exact (by repeat (first | (with_reducible first | exact HB.out | apply below_alloc | apply pw_below_drewN | apply below_drew) | exact HB.out))); rintro r W6 ⟨rfl, hb⟩; have hn_ := Lx.Hd.mk (below_step (by repeat (first | (with_reducible first | exact HB.out | apply below_alloc | apply pw_below_drewN | apply below_drew) | exact HB.out)) hb); clear hb HB; have HB := hn_; clear hn_) | (go_at_call 27; (with_reducible refine (KZZ.out _ ?s1).mono ?_); (case s1 => exact (by repeat (first | (with_reducible first | exact HB.out | apply below_alloc | apply pw_below_drewN | apply below_drew) | exact HB.out))); rintro r W6 ⟨rfl, hb⟩; have hn_ := Lx.Hd.mk (below_step (by repeat (first | (with_reducible first | exact HB.out | apply below_alloc | apply pw_below_drewN | apply below_drew) | exact HB.out)) hb); clear hb HB; have HB := hn_; clear hn_) | (go_at_call 27; (with_reducible refine (KZA.out _ ?s1).mono ?_); (case s1 => exact (by repeat (first | (with_reducible first | exact HB.out | apply below_alloc | apply pw_below_drewN | apply below_drew) | exact HB.out))); rintro r W6 ⟨rfl, hb⟩; have hn_ := Lx.Hd.mk (below_step (by repeat (first | (with_reducible first | exact HB.out | apply below_alloc | apply pw_below_drewN | apply below_drew) | exact HB.out)) hb); clear hb HB; have HB := hn_; clear hn_) | (go_at_call 26; (with_reducible refine (KWX.out _ ?s1).mono ?_); (case s1 => exact (by repeat (first | (with_reducible first | exact HB.out | apply below_alloc | apply pw_below_drewN | apply below_drew) | exact HB.out))); rintro r W6 ⟨rfl, hb⟩; have hn_ := Lx.Hd.mk (below_step (by repeat (first | (with_reducible first | exact HB.out | apply below_alloc | apply pw_below_drewN | apply below_drew) | exact HB.out)) hb); clear hb HB; have HB := hn_; clear hn_) | (go_at_call 26; (with_reducible refine (KWY.out _ ?s1).mono ?_); (case s1 => exact (by repeat (first | (with_reducible first | exact HB.out | apply below_alloc | apply pw_below_drewN | apply below_drew) | exact HB.out))); rintro r W6 ⟨rfl, hb⟩; have hn_ := Lx.Hd.mk (below_step (by repeat (first | (with_reducible first | exact HB.out | apply below_alloc | apply pw_below_drewN | apply below_drew) | exact HB.out)) hb); clear hb HB; have HB := hn_; clear hn_) | (go_at_call 26; (with_reducible refine (KWZ.out _ ?s1).mono ?_); (case s1 => exact (by repeat (first | (with_reducible first | exact HB.out | apply below_alloc | apply pw_below_drewN | apply below_drew) | exact HB.out))); rintro r W6 ⟨rfl, hb⟩; have hn_ := Lx.Hd.mk (below_step (by repeat (first | (with_reducible first | exact HB.out | apply below_alloc | apply pw_below_drewN | apply below_drew) | exact HB.out)) hb); clear hb HB; have HB := hn_; clear hn_) | (go_at_call 26; (with_reducible refine (KWA.out _ ?s1).mono ?_); (case s1 => exact (by repeat (first | (with_reducible first | exact HB.out | apply below_alloc | apply pw_below_drewN | apply below_drew) | exact HB.out))); rintro r W6 ⟨rfl, hb⟩; have hn_ := Lx.Hd.mk (below_step (by repeat (first | (with_reducible first | exact HB.out | apply below_alloc | apply pw_below_drewN | apply below_drew) | exact HB.out)) hb); clear hb HB; have HB := hn_; clear hn_) | fail)
      go_wp2
      all_goals
        go_meet
        case rel => exact ⟨by first | rfl | (simp; done) | (simp [*]; done), HB⟩
  case rest =>
  obtain ⟨rfl, HB⟩ := hcut
  go_wp2
  go_ret
  exact ⟨rfl, HBX.out.trans (HB.out.mono HBX.out.size)⟩
end Go.Proofs.YtgkhpecllhiidaaDoor.A
