/- Package ast: expr at the kind 2. -/
import Derived.Test.YtnjnadlgndjnbaaDoorYAg
import Derived.Shelf.RegionOpen
set_option linter.unusedVariables false
set_option linter.unusedSimpArgs false
namespace Go.Proofs.YtnjnadlgndjnbaaDoor.A
open Go.RowKit Go.Shelf Go.Proofs.YtnjnadlgndjnbaaDoor.As Go.Proofs.YtnjnadlgndjnbaaDoorW.PrintWords Go.Proofs.YtnjnadlgndjnbaaDoorW.PrintLast Go.Proofs.YtnjnadlgndjnbaaDoorW.PrintMore
set_option maxRecDepth 100000 in
set_option maxHeartbeats 20000000 in
theorem expr_2 (a : Addr) (f1 f2 f3 : Int) (f4 : ByteArray) (A : Option Addr) (n c : Nat) (w : World) (hn : n ≤ 9223372036854775807) (hs : f4.size ≤ 140737488351232) (hG : Keys w) (hE : EC w a 2 f1 f2 f3 f4 A n c) (lb pb sb : Bool) (hlb : ((n : Int) == 0) = lb) (hsb : Lx.Hd ((2 == 2 && (f1 == 0 && (f2 == 0 && (f3 == 0 && f4.toList == (f4 : ByteArray).toList)))) = sb)) (hpb : nameB f4 = pb) :
    Calls Tryd.prog 73 #[.pointer (some a)] w fun e w' => e = .returned (.bool (lb && (pb && sb))) ∧ Below w.heap.size w w' := by
  have hlt := lt_of_cell hE.c0
  cases lb
  · obtain ⟨c0, c1, c2, c3, c4, c5⟩ := id hE
    go_enter Tryd.func73, Tryd.ntmps73
    go_upto_region 3 with (fail)
    refine name_world fun W1 hW1 => ?_
    have hB1 : Below w.heap.size w W1 := by rw [hW1]; exact (Below.refl _ w).alloc (Nat.le_refl _) _
    have hb1 : WB W1 w.heap.size 2 0 0 0 ⟨#[]⟩ := by rw [hW1]; exact World.alloc_heap_new _ _
    clear hW1 c0 c1 c2 c3 c4 c5
    obtain ⟨c0, c1, c2, c3, c4, c5⟩ := hE.below hB1
    obtain ⟨k0, k1, k2, k3, k4, k5, l0, l1, l2, l3, l4⟩ := hb1.cells
    go_upto_region 9 with (fail)
    refine name_world fun W2 hW2 => ?_
    have hB2 : Below w.heap.size w W2 := by rw [hW2]; exact hB1.setCell (p := ⟨w.heap.size, 4, none⟩) (Nat.le_refl _) _
    have hb2 : WB W2 w.heap.size 2 0 0 0 f4 := by rw [hW2]; exact blk_put hb1 4 _ rfl
    clear hW2 c0 c1 c2 c3 c4 c5 k0 k1 k2 k3 k4 k5 l0 l1 l2 l3 l4
    obtain ⟨c0, c1, c2, c3, c4, c5⟩ := hE.below hB2
    obtain ⟨k0, k1, k2, k3, k4, k5, l0, l1, l2, l3, l4⟩ := hb2.cells
    have HB2 := Lx.Hd.mk hB2
    have Hb2 := Lx.Hd.mk hb2
    have HG := Lx.Hd.mk (Keys.below hG hB2)
    have HE := Lx.Hd.mk hE
    clear hB1 hb1 hB2 hb2 hE hG
    go_quiet (fail)
    go_wp2
    go_ret
    exact ⟨rfl, HB2.out.trans ⟨rfl, rfl, rfl, Nat.le_refl _, fun _ _ => rfl⟩⟩
  · cases pb
    · obtain ⟨c0, c1, c2, c3, c4, c5⟩ := id hE
      go_enter Tryd.func73, Tryd.ntmps73
      go_upto_region 3 with (fail)
      refine name_world fun W1 hW1 => ?_
      have hB1 : Below w.heap.size w W1 := by rw [hW1]; exact (Below.refl _ w).alloc (Nat.le_refl _) _
      have hb1 : WB W1 w.heap.size 2 0 0 0 ⟨#[]⟩ := by rw [hW1]; exact World.alloc_heap_new _ _
      clear hW1 c0 c1 c2 c3 c4 c5
      obtain ⟨c0, c1, c2, c3, c4, c5⟩ := hE.below hB1
      obtain ⟨k0, k1, k2, k3, k4, k5, l0, l1, l2, l3, l4⟩ := hb1.cells
      go_upto_region 9 with (fail)
      refine name_world fun W2 hW2 => ?_
      have hB2 : Below w.heap.size w W2 := by rw [hW2]; exact hB1.setCell (p := ⟨w.heap.size, 4, none⟩) (Nat.le_refl _) _
      have hb2 : WB W2 w.heap.size 2 0 0 0 f4 := by rw [hW2]; exact blk_put hb1 4 _ rfl
      clear hW2 c0 c1 c2 c3 c4 c5 k0 k1 k2 k3 k4 k5 l0 l1 l2 l3 l4
      obtain ⟨c0, c1, c2, c3, c4, c5⟩ := hE.below hB2
      obtain ⟨k0, k1, k2, k3, k4, k5, l0, l1, l2, l3, l4⟩ := hb2.cells
      have HB2 := Lx.Hd.mk hB2
      have Hb2 := Lx.Hd.mk hb2
      have HG := Lx.Hd.mk (Keys.below hG hB2)
      have HE := Lx.Hd.mk hE
      clear hB1 hb1 hB2 hb2 hE hG
      first | (go_region_with ((go_at_call 48; refine (name_val f4 _ hpb _ hs (by exact Lx.Keys.of_heap HG.out (Nat.le_refl _) (fun _ _ => rfl))).mono ?_; rintro e w3 ⟨rfl, hb⟩; have hB3 : Below w.heap.size w w3 := HB2.out.trans (below_of (W := W2) hb HB2.out.size ⟨rfl, rfl, rfl, rfl, rfl⟩); have hb3 : WB w3 w.heap.size 2 0 0 0 f4 := wb_of Hb2.out hb (by rfl); obtain ⟨d0, d1, d2, d3, d4, d5⟩ := HE.out.below hB3; obtain ⟨g0, g1, g2, g3, g4, g5, _⟩ := hb3.cells; have HB3 := Lx.Hd.mk hB3; clear hb hB3 hb3))) | fail
      all_goals (go_wp2; go_ret; exact ⟨rfl, HB3.out⟩)
    · obtain ⟨c0, c1, c2, c3, c4, c5⟩ := id hE
      go_enter Tryd.func73, Tryd.ntmps73
      go_upto_region 3 with (fail)
      refine name_world fun W1 hW1 => ?_
      have hB1 : Below w.heap.size w W1 := by rw [hW1]; exact (Below.refl _ w).alloc (Nat.le_refl _) _
      have hb1 : WB W1 w.heap.size 2 0 0 0 ⟨#[]⟩ := by rw [hW1]; exact World.alloc_heap_new _ _
      clear hW1 c0 c1 c2 c3 c4 c5
      obtain ⟨c0, c1, c2, c3, c4, c5⟩ := hE.below hB1
      obtain ⟨k0, k1, k2, k3, k4, k5, l0, l1, l2, l3, l4⟩ := hb1.cells
      go_upto_region 9 with (fail)
      refine name_world fun W2 hW2 => ?_
      have hB2 : Below w.heap.size w W2 := by rw [hW2]; exact hB1.setCell (p := ⟨w.heap.size, 4, none⟩) (Nat.le_refl _) _
      have hb2 : WB W2 w.heap.size 2 0 0 0 f4 := by rw [hW2]; exact blk_put hb1 4 _ rfl
      clear hW2 c0 c1 c2 c3 c4 c5 k0 k1 k2 k3 k4 k5 l0 l1 l2 l3 l4
      obtain ⟨c0, c1, c2, c3, c4, c5⟩ := hE.below hB2
      obtain ⟨k0, k1, k2, k3, k4, k5, l0, l1, l2, l3, l4⟩ := hb2.cells
      have HB2 := Lx.Hd.mk hB2
      have Hb2 := Lx.Hd.mk hb2
      have HG := Lx.Hd.mk (Keys.below hG hB2)
      have HE := Lx.Hd.mk hE
      clear hB1 hb1 hB2 hb2 hE hG
      first | (go_region_with (first | (go_at_call 48; refine (name_val f4 _ hpb _ hs (by exact Lx.Keys.of_heap HG.out (Nat.le_refl _) (fun _ _ => rfl))).mono ?_; rintro e w3 ⟨rfl, hb⟩; have hB3 : Below w.heap.size w w3 := HB2.out.trans (below_of (W := W2) hb HB2.out.size ⟨rfl, rfl, rfl, rfl, rfl⟩); have hb3 : WB w3 w.heap.size 2 0 0 0 f4 := wb_of Hb2.out hb (by rfl); obtain ⟨d0, d1, d2, d3, d4, d5⟩ := HE.out.below hB3; obtain ⟨g0, g1, g2, g3, g4, g5, _⟩ := hb3.cells; have HB3 := Lx.Hd.mk hB3; clear hb hB3 hb3) | (go_at_call 87; refine (same_val 2 f1 f2 f3 2 0 0 0 f4 f4 A n c sb hsb.out _).mono ?_; rintro e w9 ⟨rfl, hb9⟩; have HB9 := Lx.Hd.mk hb9; clear hb9))) | fail
      all_goals (go_wp2; go_ret; exact ⟨rfl, HB3.out.trans (below_of (W := w3) HB9.out HB3.out.size ⟨rfl, rfl, rfl, rfl, rfl⟩)⟩)
end Go.Proofs.YtnjnadlgndjnbaaDoor.A
namespace Go.Proofs.YtnjnadlgndjnbaaDoor.A
open Go.RowKit Go.Shelf Go.Proofs.YtnjnadlgndjnbaaDoor.As Go.Proofs.YtnjnadlgndjnbaaDoorW.PrintWords Go.Proofs.YtnjnadlgndjnbaaDoorW.PrintLast Go.Proofs.YtnjnadlgndjnbaaDoorW.PrintMore
set_option maxRecDepth 100000 in
set_option maxHeartbeats 20000000 in
theorem expr_3 (a : Addr) (f1 f2 f3 : Int) (f4 : ByteArray) (A : Option Addr) (n c : Nat) (w : World) (hn : n ≤ 9223372036854775807) (hs : f4.size ≤ 140737488351232) (hG : Keys w) (hE : EC w a 3 f1 f2 f3 f4 A n c) (lb pb sb : Bool) (hlb : ((n : Int) == 1) = lb) (hsb : Lx.Hd ((3 == 3 && (f1 == 0 && (f2 == 0 && (f3 == 0 && f4.toList == (f4 : ByteArray).toList)))) = sb)) (hpb : nameB f4 = pb) :
    Calls Tryd.prog 73 #[.pointer (some a)] w fun e w' => e = .returned (.bool (lb && (pb && sb))) ∧ Below w.heap.size w w' := by
  have hlt := lt_of_cell hE.c0
  cases lb
  · obtain ⟨c0, c1, c2, c3, c4, c5⟩ := id hE
    go_enter Tryd.func73, Tryd.ntmps73
    go_upto_region 3 with (fail)
    refine name_world fun W1 hW1 => ?_
    have hB1 : Below w.heap.size w W1 := by rw [hW1]; exact (Below.refl _ w).alloc (Nat.le_refl _) _
    have hb1 : WB W1 w.heap.size 3 0 0 0 ⟨#[]⟩ := by rw [hW1]; exact World.alloc_heap_new _ _
    clear hW1 c0 c1 c2 c3 c4 c5
    obtain ⟨c0, c1, c2, c3, c4, c5⟩ := hE.below hB1
    obtain ⟨k0, k1, k2, k3, k4, k5, l0, l1, l2, l3, l4⟩ := hb1.cells
    go_upto_region 12 with (fail)
    refine name_world fun W2 hW2 => ?_
    have hB2 : Below w.heap.size w W2 := by rw [hW2]; exact hB1.setCell (p := ⟨w.heap.size, 4, none⟩) (Nat.le_refl _) _
    have hb2 : WB W2 w.heap.size 3 0 0 0 f4 := by rw [hW2]; exact blk_put hb1 4 _ rfl
    clear hW2 c0 c1 c2 c3 c4 c5 k0 k1 k2 k3 k4 k5 l0 l1 l2 l3 l4
    obtain ⟨c0, c1, c2, c3, c4, c5⟩ := hE.below hB2
    obtain ⟨k0, k1, k2, k3, k4, k5, l0, l1, l2, l3, l4⟩ := hb2.cells
    have HB2 := Lx.Hd.mk hB2
    have Hb2 := Lx.Hd.mk hb2
    have HG := Lx.Hd.mk (Keys.below hG hB2)
    have HE := Lx.Hd.mk hE
    clear hB1 hb1 hB2 hb2 hE hG
    go_quiet (fail)
    go_wp2
    go_ret
    exact ⟨rfl, HB2.out.trans ⟨rfl, rfl, rfl, Nat.le_refl _, fun _ _ => rfl⟩⟩
  · cases pb
    · obtain ⟨c0, c1, c2, c3, c4, c5⟩ := id hE
      go_enter Tryd.func73, Tryd.ntmps73
      go_upto_region 3 with (fail)
      refine name_world fun W1 hW1 => ?_
      have hB1 : Below w.heap.size w W1 := by rw [hW1]; exact (Below.refl _ w).alloc (Nat.le_refl _) _
      have hb1 : WB W1 w.heap.size 3 0 0 0 ⟨#[]⟩ := by rw [hW1]; exact World.alloc_heap_new _ _
      clear hW1 c0 c1 c2 c3 c4 c5
      obtain ⟨c0, c1, c2, c3, c4, c5⟩ := hE.below hB1
      obtain ⟨k0, k1, k2, k3, k4, k5, l0, l1, l2, l3, l4⟩ := hb1.cells
      go_upto_region 12 with (fail)
      refine name_world fun W2 hW2 => ?_
      have hB2 : Below w.heap.size w W2 := by rw [hW2]; exact hB1.setCell (p := ⟨w.heap.size, 4, none⟩) (Nat.le_refl _) _
      have hb2 : WB W2 w.heap.size 3 0 0 0 f4 := by rw [hW2]; exact blk_put hb1 4 _ rfl
      clear hW2 c0 c1 c2 c3 c4 c5 k0 k1 k2 k3 k4 k5 l0 l1 l2 l3 l4
      obtain ⟨c0, c1, c2, c3, c4, c5⟩ := hE.below hB2
      obtain ⟨k0, k1, k2, k3, k4, k5, l0, l1, l2, l3, l4⟩ := hb2.cells
      have HB2 := Lx.Hd.mk hB2
      have Hb2 := Lx.Hd.mk hb2
      have HG := Lx.Hd.mk (Keys.below hG hB2)
      have HE := Lx.Hd.mk hE
      clear hB1 hb1 hB2 hb2 hE hG
      first | (go_region_with ((go_at_call 48; refine (name_val f4 _ hpb _ hs (by exact Lx.Keys.of_heap HG.out (Nat.le_refl _) (fun _ _ => rfl))).mono ?_; rintro e w3 ⟨rfl, hb⟩; have hB3 : Below w.heap.size w w3 := HB2.out.trans (below_of (W := W2) hb HB2.out.size ⟨rfl, rfl, rfl, rfl, rfl⟩); have hb3 : WB w3 w.heap.size 3 0 0 0 f4 := wb_of Hb2.out hb (by rfl); obtain ⟨d0, d1, d2, d3, d4, d5⟩ := HE.out.below hB3; obtain ⟨g0, g1, g2, g3, g4, g5, _⟩ := hb3.cells; have HB3 := Lx.Hd.mk hB3; clear hb hB3 hb3))) | fail
      all_goals (go_wp2; go_ret; exact ⟨rfl, HB3.out⟩)
    · obtain ⟨c0, c1, c2, c3, c4, c5⟩ := id hE
      go_enter Tryd.func73, Tryd.ntmps73
      go_upto_region 3 with (fail)
      refine name_world fun W1 hW1 => ?_
      have hB1 : Below w.heap.size w W1 := by rw [hW1]; exact (Below.refl _ w).alloc (Nat.le_refl _) _
      have hb1 : WB W1 w.heap.size 3 0 0 0 ⟨#[]⟩ := by rw [hW1]; exact World.alloc_heap_new _ _
      clear hW1 c0 c1 c2 c3 c4 c5
      obtain ⟨c0, c1, c2, c3, c4, c5⟩ := hE.below hB1
      obtain ⟨k0, k1, k2, k3, k4, k5, l0, l1, l2, l3, l4⟩ := hb1.cells
      go_upto_region 12 with (fail)
      refine name_world fun W2 hW2 => ?_
      have hB2 : Below w.heap.size w W2 := by rw [hW2]; exact hB1.setCell (p := ⟨w.heap.size, 4, none⟩) (Nat.le_refl _) _
      have hb2 : WB W2 w.heap.size 3 0 0 0 f4 := by rw [hW2]; exact blk_put hb1 4 _ rfl
      clear hW2 c0 c1 c2 c3 c4 c5 k0 k1 k2 k3 k4 k5 l0 l1 l2 l3 l4
      obtain ⟨c0, c1, c2, c3, c4, c5⟩ := hE.below hB2
      obtain ⟨k0, k1, k2, k3, k4, k5, l0, l1, l2, l3, l4⟩ := hb2.cells
      have HB2 := Lx.Hd.mk hB2
      have Hb2 := Lx.Hd.mk hb2
      have HG := Lx.Hd.mk (Keys.below hG hB2)
      have HE := Lx.Hd.mk hE
      clear hB1 hb1 hB2 hb2 hE hG
      first | (go_region_with (first | (go_at_call 48; refine (name_val f4 _ hpb _ hs (by exact Lx.Keys.of_heap HG.out (Nat.le_refl _) (fun _ _ => rfl))).mono ?_; rintro e w3 ⟨rfl, hb⟩; have hB3 : Below w.heap.size w w3 := HB2.out.trans (below_of (W := W2) hb HB2.out.size ⟨rfl, rfl, rfl, rfl, rfl⟩); have hb3 : WB w3 w.heap.size 3 0 0 0 f4 := wb_of Hb2.out hb (by rfl); obtain ⟨d0, d1, d2, d3, d4, d5⟩ := HE.out.below hB3; obtain ⟨g0, g1, g2, g3, g4, g5, _⟩ := hb3.cells; have HB3 := Lx.Hd.mk hB3; clear hb hB3 hb3) | (go_at_call 87; refine (same_val 3 f1 f2 f3 3 0 0 0 f4 f4 A n c sb hsb.out _).mono ?_; rintro e w9 ⟨rfl, hb9⟩; have HB9 := Lx.Hd.mk hb9; clear hb9))) | fail
      all_goals (go_wp2; go_ret; exact ⟨rfl, HB3.out.trans (below_of (W := w3) HB9.out HB3.out.size ⟨rfl, rfl, rfl, rfl, rfl⟩)⟩)
end Go.Proofs.YtnjnadlgndjnbaaDoor.A
namespace Go.Proofs.YtnjnadlgndjnbaaDoor.A
open Go.RowKit Go.Shelf Go.Proofs.YtnjnadlgndjnbaaDoor.As Go.Proofs.YtnjnadlgndjnbaaDoorW.PrintWords Go.Proofs.YtnjnadlgndjnbaaDoorW.PrintLast Go.Proofs.YtnjnadlgndjnbaaDoorW.PrintMore
set_option maxRecDepth 100000 in
set_option maxHeartbeats 20000000 in
theorem expr_4 (a : Addr) (f1 f2 f3 : Int) (f4 : ByteArray) (A : Option Addr) (n c : Nat) (w : World) (hn : n ≤ 9223372036854775807) (hs : f4.size ≤ 140737488351232) (hG : Keys w) (hE : EC w a 4 f1 f2 f3 f4 A n c) (lb pb sb : Bool) (hlb : decide ((n : Int) ≤ 8) = lb) (hsb : Lx.Hd ((4 == 4 && (f1 == 0 && (f2 == 0 && (f3 == 0 && f4.toList == (f4 : ByteArray).toList)))) = sb)) (hpb : nameB f4 = pb) :
    Calls Tryd.prog 73 #[.pointer (some a)] w fun e w' => e = .returned (.bool (lb && (pb && sb))) ∧ Below w.heap.size w w' := by
  have hlt := lt_of_cell hE.c0
  cases lb
  · obtain ⟨c0, c1, c2, c3, c4, c5⟩ := id hE
    go_enter Tryd.func73, Tryd.ntmps73
    go_upto_region 3 with (fail)
    refine name_world fun W1 hW1 => ?_
    have hB1 : Below w.heap.size w W1 := by rw [hW1]; exact (Below.refl _ w).alloc (Nat.le_refl _) _
    have hb1 : WB W1 w.heap.size 4 0 0 0 ⟨#[]⟩ := by rw [hW1]; exact World.alloc_heap_new _ _
    clear hW1 c0 c1 c2 c3 c4 c5
    obtain ⟨c0, c1, c2, c3, c4, c5⟩ := hE.below hB1
    obtain ⟨k0, k1, k2, k3, k4, k5, l0, l1, l2, l3, l4⟩ := hb1.cells
    go_upto_region 15 with (fail)
    refine name_world fun W2 hW2 => ?_
    have hB2 : Below w.heap.size w W2 := by rw [hW2]; exact hB1.setCell (p := ⟨w.heap.size, 4, none⟩) (Nat.le_refl _) _
    have hb2 : WB W2 w.heap.size 4 0 0 0 f4 := by rw [hW2]; exact blk_put hb1 4 _ rfl
    clear hW2 c0 c1 c2 c3 c4 c5 k0 k1 k2 k3 k4 k5 l0 l1 l2 l3 l4
    obtain ⟨c0, c1, c2, c3, c4, c5⟩ := hE.below hB2
    obtain ⟨k0, k1, k2, k3, k4, k5, l0, l1, l2, l3, l4⟩ := hb2.cells
    have HB2 := Lx.Hd.mk hB2
    have Hb2 := Lx.Hd.mk hb2
    have HG := Lx.Hd.mk (Keys.below hG hB2)
    have HE := Lx.Hd.mk hE
    clear hB1 hb1 hB2 hb2 hE hG
    go_quiet (fail)
    go_wp2
    go_ret
    exact ⟨rfl, HB2.out.trans ⟨rfl, rfl, rfl, Nat.le_refl _, fun _ _ => rfl⟩⟩
  · cases pb
    · obtain ⟨c0, c1, c2, c3, c4, c5⟩ := id hE
      go_enter Tryd.func73, Tryd.ntmps73
      go_upto_region 3 with (fail)
      refine name_world fun W1 hW1 => ?_
      have hB1 : Below w.heap.size w W1 := by rw [hW1]; exact (Below.refl _ w).alloc (Nat.le_refl _) _
      have hb1 : WB W1 w.heap.size 4 0 0 0 ⟨#[]⟩ := by rw [hW1]; exact World.alloc_heap_new _ _
      clear hW1 c0 c1 c2 c3 c4 c5
      obtain ⟨c0, c1, c2, c3, c4, c5⟩ := hE.below hB1
      obtain ⟨k0, k1, k2, k3, k4, k5, l0, l1, l2, l3, l4⟩ := hb1.cells
      go_upto_region 15 with (fail)
      refine name_world fun W2 hW2 => ?_
      have hB2 : Below w.heap.size w W2 := by rw [hW2]; exact hB1.setCell (p := ⟨w.heap.size, 4, none⟩) (Nat.le_refl _) _
      have hb2 : WB W2 w.heap.size 4 0 0 0 f4 := by rw [hW2]; exact blk_put hb1 4 _ rfl
      clear hW2 c0 c1 c2 c3 c4 c5 k0 k1 k2 k3 k4 k5 l0 l1 l2 l3 l4
      obtain ⟨c0, c1, c2, c3, c4, c5⟩ := hE.below hB2
      obtain ⟨k0, k1, k2, k3, k4, k5, l0, l1, l2, l3, l4⟩ := hb2.cells
      have HB2 := Lx.Hd.mk hB2
      have Hb2 := Lx.Hd.mk hb2
      have HG := Lx.Hd.mk (Keys.below hG hB2)
      have HE := Lx.Hd.mk hE
      clear hB1 hb1 hB2 hb2 hE hG
      first | (go_region_with ((go_at_call 48; refine (name_val f4 _ hpb _ hs (by exact Lx.Keys.of_heap HG.out (Nat.le_refl _) (fun _ _ => rfl))).mono ?_; rintro e w3 ⟨rfl, hb⟩; have hB3 : Below w.heap.size w w3 := HB2.out.trans (below_of (W := W2) hb HB2.out.size ⟨rfl, rfl, rfl, rfl, rfl⟩); have hb3 : WB w3 w.heap.size 4 0 0 0 f4 := wb_of Hb2.out hb (by rfl); obtain ⟨d0, d1, d2, d3, d4, d5⟩ := HE.out.below hB3; obtain ⟨g0, g1, g2, g3, g4, g5, _⟩ := hb3.cells; have HB3 := Lx.Hd.mk hB3; clear hb hB3 hb3))) | fail
      all_goals (go_wp2; go_ret; exact ⟨rfl, HB3.out⟩)
    · obtain ⟨c0, c1, c2, c3, c4, c5⟩ := id hE
      go_enter Tryd.func73, Tryd.ntmps73
      go_upto_region 3 with (fail)
      refine name_world fun W1 hW1 => ?_
      have hB1 : Below w.heap.size w W1 := by rw [hW1]; exact (Below.refl _ w).alloc (Nat.le_refl _) _
      have hb1 : WB W1 w.heap.size 4 0 0 0 ⟨#[]⟩ := by rw [hW1]; exact World.alloc_heap_new _ _
      clear hW1 c0 c1 c2 c3 c4 c5
      obtain ⟨c0, c1, c2, c3, c4, c5⟩ := hE.below hB1
      obtain ⟨k0, k1, k2, k3, k4, k5, l0, l1, l2, l3, l4⟩ := hb1.cells
      go_upto_region 15 with (fail)
      refine name_world fun W2 hW2 => ?_
      have hB2 : Below w.heap.size w W2 := by rw [hW2]; exact hB1.setCell (p := ⟨w.heap.size, 4, none⟩) (Nat.le_refl _) _
      have hb2 : WB W2 w.heap.size 4 0 0 0 f4 := by rw [hW2]; exact blk_put hb1 4 _ rfl
      clear hW2 c0 c1 c2 c3 c4 c5 k0 k1 k2 k3 k4 k5 l0 l1 l2 l3 l4
      obtain ⟨c0, c1, c2, c3, c4, c5⟩ := hE.below hB2
      obtain ⟨k0, k1, k2, k3, k4, k5, l0, l1, l2, l3, l4⟩ := hb2.cells
      have HB2 := Lx.Hd.mk hB2
      have Hb2 := Lx.Hd.mk hb2
      have HG := Lx.Hd.mk (Keys.below hG hB2)
      have HE := Lx.Hd.mk hE
      clear hB1 hb1 hB2 hb2 hE hG
      first | (go_region_with (first | (go_at_call 48; refine (name_val f4 _ hpb _ hs (by exact Lx.Keys.of_heap HG.out (Nat.le_refl _) (fun _ _ => rfl))).mono ?_; rintro e w3 ⟨rfl, hb⟩; have hB3 : Below w.heap.size w w3 := HB2.out.trans (below_of (W := W2) hb HB2.out.size ⟨rfl, rfl, rfl, rfl, rfl⟩); have hb3 : WB w3 w.heap.size 4 0 0 0 f4 := wb_of Hb2.out hb (by rfl); obtain ⟨d0, d1, d2, d3, d4, d5⟩ := HE.out.below hB3; obtain ⟨g0, g1, g2, g3, g4, g5, _⟩ := hb3.cells; have HB3 := Lx.Hd.mk hB3; clear hb hB3 hb3) | (go_at_call 87; refine (same_val 4 f1 f2 f3 4 0 0 0 f4 f4 A n c sb hsb.out _).mono ?_; rintro e w9 ⟨rfl, hb9⟩; have HB9 := Lx.Hd.mk hb9; clear hb9))) | fail
      all_goals (go_wp2; go_ret; exact ⟨rfl, HB3.out.trans (below_of (W := w3) HB9.out HB3.out.size ⟨rfl, rfl, rfl, rfl, rfl⟩)⟩)
end Go.Proofs.YtnjnadlgndjnbaaDoor.A
