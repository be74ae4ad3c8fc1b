/- Package ast: expr at the kind 5. -/
import Derived.Test.YtnjnadlgndjnbaaDoorYAg
import Derived.Shelf.RegionOpen
set_option linter.unusedVariables false
set_option linter.unusedSimpArgs false
namespace Go.Proofs.YtnjnadlgndjnbaaDoor.A
open Go.RowKit Go.Shelf Go.Proofs.YtnjnadlgndjnbaaDoor.As Go.Proofs.YtnjnadlgndjnbaaDoorW.PrintWords Go.Proofs.YtnjnadlgndjnbaaDoorW.PrintLast Go.Proofs.YtnjnadlgndjnbaaDoorW.PrintMore
set_option maxRecDepth 100000 in
set_option maxHeartbeats 20000000 in
theorem expr_5 (a : Addr) (f1 f2 f3 : Int) (f4 : ByteArray) (A : Option Addr) (n c : Nat) (w : World) (hn : n ≤ 9223372036854775807) (hs : f4.size ≤ 140737488351232) (hG : Keys w) (hE : EC w a 5 f1 f2 f3 f4 A n c) (lb pb sb : Bool) (hlb : ((n : Int) == 1) = lb) (hsb : Lx.Hd ((5 == 5 && (f1 == f1 && (f2 == 0 && (f3 == 0 && f4.toList == (⟨#[]⟩ : ByteArray).toList)))) = sb)) (hpb : ((wordName f1).toList != []) = pb) :
    Calls Tryd.prog 73 #[.pointer (some a)] w fun e w' => e = .returned (.bool (lb && (pb && sb))) ∧ Below w.heap.size w w' := by
  have hlt := lt_of_cell hE.c0
  have hpb2 : (wordName f1).toList.isEmpty = !pb := by rw [← hpb]; cases (wordName f1).toList <;> rfl
  cases lb
  · obtain ⟨c0, c1, c2, c3, c4, c5⟩ := id hE
    go_enter Tryd.func73, Tryd.ntmps73
    go_upto_region 3 with (fail)
    refine name_world fun W1 hW1 => ?_
    have hB1 : Below w.heap.size w W1 := by rw [hW1]; exact (Below.refl _ w).alloc (Nat.le_refl _) _
    have hb1 : WB W1 w.heap.size 5 0 0 0 ⟨#[]⟩ := by rw [hW1]; exact World.alloc_heap_new _ _
    clear hW1 c0 c1 c2 c3 c4 c5
    obtain ⟨c0, c1, c2, c3, c4, c5⟩ := hE.below hB1
    obtain ⟨k0, k1, k2, k3, k4, k5, l0, l1, l2, l3, l4⟩ := hb1.cells
    go_upto_region 18 with (fail)
    refine name_world fun W2 hW2 => ?_
    have hB2 : Below w.heap.size w W2 := by rw [hW2]; exact hB1.setCell (p := ⟨w.heap.size, 1, none⟩) (Nat.le_refl _) _
    have hb2 : WB W2 w.heap.size 5 f1 0 0 ⟨#[]⟩ := by rw [hW2]; exact blk_put hb1 1 _ rfl
    clear hW2 c0 c1 c2 c3 c4 c5 k0 k1 k2 k3 k4 k5 l0 l1 l2 l3 l4
    obtain ⟨c0, c1, c2, c3, c4, c5⟩ := hE.below hB2
    obtain ⟨k0, k1, k2, k3, k4, k5, l0, l1, l2, l3, l4⟩ := hb2.cells
    have HB2 := Lx.Hd.mk hB2
    have Hb2 := Lx.Hd.mk hb2
    have HG := Lx.Hd.mk (Keys.below hG hB2)
    have HE := Lx.Hd.mk hE
    clear hB1 hb1 hB2 hb2 hE hG
    go_quiet (fail)
    go_wp2
    go_ret
    exact ⟨rfl, HB2.out.trans ⟨rfl, rfl, rfl, Nat.le_refl _, fun _ _ => rfl⟩⟩
  · cases pb
    · simp only [Bool.not_false] at hpb2
      obtain ⟨c0, c1, c2, c3, c4, c5⟩ := id hE
      go_enter Tryd.func73, Tryd.ntmps73
      go_upto_region 3 with (fail)
      refine name_world fun W1 hW1 => ?_
      have hB1 : Below w.heap.size w W1 := by rw [hW1]; exact (Below.refl _ w).alloc (Nat.le_refl _) _
      have hb1 : WB W1 w.heap.size 5 0 0 0 ⟨#[]⟩ := by rw [hW1]; exact World.alloc_heap_new _ _
      clear hW1 c0 c1 c2 c3 c4 c5
      obtain ⟨c0, c1, c2, c3, c4, c5⟩ := hE.below hB1
      obtain ⟨k0, k1, k2, k3, k4, k5, l0, l1, l2, l3, l4⟩ := hb1.cells
      go_upto_region 18 with (fail)
      refine name_world fun W2 hW2 => ?_
      have hB2 : Below w.heap.size w W2 := by rw [hW2]; exact hB1.setCell (p := ⟨w.heap.size, 1, none⟩) (Nat.le_refl _) _
      have hb2 : WB W2 w.heap.size 5 f1 0 0 ⟨#[]⟩ := by rw [hW2]; exact blk_put hb1 1 _ rfl
      clear hW2 c0 c1 c2 c3 c4 c5 k0 k1 k2 k3 k4 k5 l0 l1 l2 l3 l4
      obtain ⟨c0, c1, c2, c3, c4, c5⟩ := hE.below hB2
      obtain ⟨k0, k1, k2, k3, k4, k5, l0, l1, l2, l3, l4⟩ := hb2.cells
      have HB2 := Lx.Hd.mk hB2
      have Hb2 := Lx.Hd.mk hb2
      have HG := Lx.Hd.mk (Keys.below hG hB2)
      have HE := Lx.Hd.mk hE
      clear hB1 hb1 hB2 hb2 hE hG
      first | (go_region_with ((go_at_call 88; refine (wordName_any f1 _).mono ?_; rintro e w3 ⟨rfl, rfl⟩))) | fail
      all_goals (go_wp2; go_ret; exact ⟨rfl, HB2.out.trans ⟨rfl, rfl, rfl, Nat.le_refl _, fun _ _ => rfl⟩⟩)
    · simp only [Bool.not_true] at hpb2
      obtain ⟨c0, c1, c2, c3, c4, c5⟩ := id hE
      go_enter Tryd.func73, Tryd.ntmps73
      go_upto_region 3 with (fail)
      refine name_world fun W1 hW1 => ?_
      have hB1 : Below w.heap.size w W1 := by rw [hW1]; exact (Below.refl _ w).alloc (Nat.le_refl _) _
      have hb1 : WB W1 w.heap.size 5 0 0 0 ⟨#[]⟩ := by rw [hW1]; exact World.alloc_heap_new _ _
      clear hW1 c0 c1 c2 c3 c4 c5
      obtain ⟨c0, c1, c2, c3, c4, c5⟩ := hE.below hB1
      obtain ⟨k0, k1, k2, k3, k4, k5, l0, l1, l2, l3, l4⟩ := hb1.cells
      go_upto_region 18 with (fail)
      refine name_world fun W2 hW2 => ?_
      have hB2 : Below w.heap.size w W2 := by rw [hW2]; exact hB1.setCell (p := ⟨w.heap.size, 1, none⟩) (Nat.le_refl _) _
      have hb2 : WB W2 w.heap.size 5 f1 0 0 ⟨#[]⟩ := by rw [hW2]; exact blk_put hb1 1 _ rfl
      clear hW2 c0 c1 c2 c3 c4 c5 k0 k1 k2 k3 k4 k5 l0 l1 l2 l3 l4
      obtain ⟨c0, c1, c2, c3, c4, c5⟩ := hE.below hB2
      obtain ⟨k0, k1, k2, k3, k4, k5, l0, l1, l2, l3, l4⟩ := hb2.cells
      have HB2 := Lx.Hd.mk hB2
      have Hb2 := Lx.Hd.mk hb2
      have HG := Lx.Hd.mk (Keys.below hG hB2)
      have HE := Lx.Hd.mk hE
      clear hB1 hb1 hB2 hb2 hE hG
      first | (go_region_with (first | (go_at_call 88; refine (wordName_any f1 _).mono ?_; rintro e w3 ⟨rfl, rfl⟩) | (go_at_call 87; refine (same_val 5 f1 f2 f3 5 f1 0 0 f4 ⟨#[]⟩ A n c sb hsb.out _).mono ?_; rintro e w9 ⟨rfl, hb9⟩; have HB9 := Lx.Hd.mk hb9; clear hb9))) | fail
      all_goals (go_wp2; go_ret; exact ⟨rfl, HB2.out.trans (below_of (W := W2) HB9.out HB2.out.size ⟨rfl, rfl, rfl, rfl, rfl⟩)⟩)
end Go.Proofs.YtnjnadlgndjnbaaDoor.A
namespace Go.Proofs.YtnjnadlgndjnbaaDoor.A
open Go.RowKit Go.Shelf Go.Proofs.YtnjnadlgndjnbaaDoor.As Go.Proofs.YtnjnadlgndjnbaaDoorW.PrintWords Go.Proofs.YtnjnadlgndjnbaaDoorW.PrintLast Go.Proofs.YtnjnadlgndjnbaaDoorW.PrintMore
set_option maxRecDepth 100000 in
set_option maxHeartbeats 20000000 in
theorem expr_6 (a : Addr) (f1 f2 f3 : Int) (f4 : ByteArray) (A : Option Addr) (n c : Nat) (w : World) (hn : n ≤ 9223372036854775807) (hs : f4.size ≤ 140737488351232) (hG : Keys w) (hE : EC w a 6 f1 f2 f3 f4 A n c) (lb pb sb : Bool) (hlb : ((n : Int) == 2) = lb) (hsb : Lx.Hd ((6 == 6 && (f1 == f1 && (f2 == 0 && (f3 == 0 && f4.toList == (⟨#[]⟩ : ByteArray).toList)))) = sb)) (hpb : opB f1 = pb) :
    Calls Tryd.prog 73 #[.pointer (some a)] w fun e w' => e = .returned (.bool (lb && (pb && sb))) ∧ Below w.heap.size w w' := by
  have hlt := lt_of_cell hE.c0
  cases lb
  · obtain ⟨c0, c1, c2, c3, c4, c5⟩ := id hE
    go_enter Tryd.func73, Tryd.ntmps73
    go_upto_region 3 with (fail)
    refine name_world fun W1 hW1 => ?_
    have hB1 : Below w.heap.size w W1 := by rw [hW1]; exact (Below.refl _ w).alloc (Nat.le_refl _) _
    have hb1 : WB W1 w.heap.size 6 0 0 0 ⟨#[]⟩ := by rw [hW1]; exact World.alloc_heap_new _ _
    clear hW1 c0 c1 c2 c3 c4 c5
    obtain ⟨c0, c1, c2, c3, c4, c5⟩ := hE.below hB1
    obtain ⟨k0, k1, k2, k3, k4, k5, l0, l1, l2, l3, l4⟩ := hb1.cells
    go_upto_region 21 with (fail)
    refine name_world fun W2 hW2 => ?_
    have hB2 : Below w.heap.size w W2 := by rw [hW2]; exact hB1.setCell (p := ⟨w.heap.size, 1, none⟩) (Nat.le_refl _) _
    have hb2 : WB W2 w.heap.size 6 f1 0 0 ⟨#[]⟩ := by rw [hW2]; exact blk_put hb1 1 _ rfl
    clear hW2 c0 c1 c2 c3 c4 c5 k0 k1 k2 k3 k4 k5 l0 l1 l2 l3 l4
    obtain ⟨c0, c1, c2, c3, c4, c5⟩ := hE.below hB2
    obtain ⟨k0, k1, k2, k3, k4, k5, l0, l1, l2, l3, l4⟩ := hb2.cells
    have HB2 := Lx.Hd.mk hB2
    have Hb2 := Lx.Hd.mk hb2
    have HG := Lx.Hd.mk (Keys.below hG hB2)
    have HE := Lx.Hd.mk hE
    clear hB1 hb1 hB2 hb2 hE hG
    go_quiet (fail)
    go_wp2
    go_ret
    exact ⟨rfl, HB2.out.trans ⟨rfl, rfl, rfl, Nat.le_refl _, fun _ _ => rfl⟩⟩
  · cases pb
    · obtain ⟨c0, c1, c2, c3, c4, c5⟩ := id hE
      go_enter Tryd.func73, Tryd.ntmps73
      go_upto_region 3 with (fail)
      refine name_world fun W1 hW1 => ?_
      have hB1 : Below w.heap.size w W1 := by rw [hW1]; exact (Below.refl _ w).alloc (Nat.le_refl _) _
      have hb1 : WB W1 w.heap.size 6 0 0 0 ⟨#[]⟩ := by rw [hW1]; exact World.alloc_heap_new _ _
      clear hW1 c0 c1 c2 c3 c4 c5
      obtain ⟨c0, c1, c2, c3, c4, c5⟩ := hE.below hB1
      obtain ⟨k0, k1, k2, k3, k4, k5, l0, l1, l2, l3, l4⟩ := hb1.cells
      go_upto_region 21 with (fail)
      refine name_world fun W2 hW2 => ?_
      have hB2 : Below w.heap.size w W2 := by rw [hW2]; exact hB1.setCell (p := ⟨w.heap.size, 1, none⟩) (Nat.le_refl _) _
      have hb2 : WB W2 w.heap.size 6 f1 0 0 ⟨#[]⟩ := by rw [hW2]; exact blk_put hb1 1 _ rfl
      clear hW2 c0 c1 c2 c3 c4 c5 k0 k1 k2 k3 k4 k5 l0 l1 l2 l3 l4
      obtain ⟨c0, c1, c2, c3, c4, c5⟩ := hE.below hB2
      obtain ⟨k0, k1, k2, k3, k4, k5, l0, l1, l2, l3, l4⟩ := hb2.cells
      have HB2 := Lx.Hd.mk hB2
      have Hb2 := Lx.Hd.mk hb2
      have HG := Lx.Hd.mk (Keys.below hG hB2)
      have HE := Lx.Hd.mk hE
      clear hB1 hb1 hB2 hb2 hE hG
      first | (go_region_with ((go_at_call 89; refine (operator_val f1 _ hpb _).mono ?_; rintro e w3 ⟨rfl, rfl⟩))) | fail
      all_goals (go_wp2; go_ret; exact ⟨rfl, HB2.out.trans ⟨rfl, rfl, rfl, Nat.le_refl _, fun _ _ => rfl⟩⟩)
    · obtain ⟨c0, c1, c2, c3, c4, c5⟩ := id hE
      go_enter Tryd.func73, Tryd.ntmps73
      go_upto_region 3 with (fail)
      refine name_world fun W1 hW1 => ?_
      have hB1 : Below w.heap.size w W1 := by rw [hW1]; exact (Below.refl _ w).alloc (Nat.le_refl _) _
      have hb1 : WB W1 w.heap.size 6 0 0 0 ⟨#[]⟩ := by rw [hW1]; exact World.alloc_heap_new _ _
      clear hW1 c0 c1 c2 c3 c4 c5
      obtain ⟨c0, c1, c2, c3, c4, c5⟩ := hE.below hB1
      obtain ⟨k0, k1, k2, k3, k4, k5, l0, l1, l2, l3, l4⟩ := hb1.cells
      go_upto_region 21 with (fail)
      refine name_world fun W2 hW2 => ?_
      have hB2 : Below w.heap.size w W2 := by rw [hW2]; exact hB1.setCell (p := ⟨w.heap.size, 1, none⟩) (Nat.le_refl _) _
      have hb2 : WB W2 w.heap.size 6 f1 0 0 ⟨#[]⟩ := by rw [hW2]; exact blk_put hb1 1 _ rfl
      clear hW2 c0 c1 c2 c3 c4 c5 k0 k1 k2 k3 k4 k5 l0 l1 l2 l3 l4
      obtain ⟨c0, c1, c2, c3, c4, c5⟩ := hE.below hB2
      obtain ⟨k0, k1, k2, k3, k4, k5, l0, l1, l2, l3, l4⟩ := hb2.cells
      have HB2 := Lx.Hd.mk hB2
      have Hb2 := Lx.Hd.mk hb2
      have HG := Lx.Hd.mk (Keys.below hG hB2)
      have HE := Lx.Hd.mk hE
      clear hB1 hb1 hB2 hb2 hE hG
      first | (go_region_with (first | (go_at_call 89; refine (operator_val f1 _ hpb _).mono ?_; rintro e w3 ⟨rfl, rfl⟩) | (go_at_call 87; refine (same_val 6 f1 f2 f3 6 f1 0 0 f4 ⟨#[]⟩ A n c sb hsb.out _).mono ?_; rintro e w9 ⟨rfl, hb9⟩; have HB9 := Lx.Hd.mk hb9; clear hb9))) | fail
      all_goals (go_wp2; go_ret; exact ⟨rfl, HB2.out.trans (below_of (W := W2) HB9.out HB2.out.size ⟨rfl, rfl, rfl, rfl, rfl⟩)⟩)
end Go.Proofs.YtnjnadlgndjnbaaDoor.A
namespace Go.Proofs.YtnjnadlgndjnbaaDoor.A
open Go.RowKit Go.Shelf Go.Proofs.YtnjnadlgndjnbaaDoor.As Go.Proofs.YtnjnadlgndjnbaaDoorW.PrintWords Go.Proofs.YtnjnadlgndjnbaaDoorW.PrintLast Go.Proofs.YtnjnadlgndjnbaaDoorW.PrintMore
set_option maxRecDepth 100000 in
set_option maxHeartbeats 20000000 in
theorem expr_7 (a : Addr) (f1 f2 f3 : Int) (f4 : ByteArray) (A : Option Addr) (n c : Nat) (w : World) (hn : n ≤ 9223372036854775807) (hs : f4.size ≤ 140737488351232) (hG : Keys w) (hE : EC w a 7 f1 f2 f3 f4 A n c) (lb pb sb : Bool) (hlb : ((n : Int) == 1) = lb) (hsb : Lx.Hd ((7 == 7 && (f1 == 0 && (f2 == f2 && (f3 == 0 && f4.toList == (⟨#[]⟩ : ByteArray).toList)))) = sb)) (hpb : decide (0 < widthI f2) = pb) :
    Calls Tryd.prog 73 #[.pointer (some a)] w fun e w' => e = .returned (.bool (lb && (pb && sb))) ∧ Below w.heap.size w w' := by
  have hlt := lt_of_cell hE.c0
  cases lb
  · obtain ⟨c0, c1, c2, c3, c4, c5⟩ := id hE
    go_enter Tryd.func73, Tryd.ntmps73
    go_upto_region 3 with (fail)
    refine name_world fun W1 hW1 => ?_
    have hB1 : Below w.heap.size w W1 := by rw [hW1]; exact (Below.refl _ w).alloc (Nat.le_refl _) _
    have hb1 : WB W1 w.heap.size 7 0 0 0 ⟨#[]⟩ := by rw [hW1]; exact World.alloc_heap_new _ _
    clear hW1 c0 c1 c2 c3 c4 c5
    obtain ⟨c0, c1, c2, c3, c4, c5⟩ := hE.below hB1
    obtain ⟨k0, k1, k2, k3, k4, k5, l0, l1, l2, l3, l4⟩ := hb1.cells
    go_upto_region 24 with (fail)
    refine name_world fun W2 hW2 => ?_
    have hB2 : Below w.heap.size w W2 := by rw [hW2]; exact hB1.setCell (p := ⟨w.heap.size, 2, none⟩) (Nat.le_refl _) _
    have hb2 : WB W2 w.heap.size 7 0 f2 0 ⟨#[]⟩ := by rw [hW2]; exact blk_put hb1 2 _ rfl
    clear hW2 c0 c1 c2 c3 c4 c5 k0 k1 k2 k3 k4 k5 l0 l1 l2 l3 l4
    obtain ⟨c0, c1, c2, c3, c4, c5⟩ := hE.below hB2
    obtain ⟨k0, k1, k2, k3, k4, k5, l0, l1, l2, l3, l4⟩ := hb2.cells
    have HB2 := Lx.Hd.mk hB2
    have Hb2 := Lx.Hd.mk hb2
    have HG := Lx.Hd.mk (Keys.below hG hB2)
    have HE := Lx.Hd.mk hE
    clear hB1 hb1 hB2 hb2 hE hG
    go_quiet (fail)
    go_wp2
    go_ret
    exact ⟨rfl, HB2.out.trans ⟨rfl, rfl, rfl, Nat.le_refl _, fun _ _ => rfl⟩⟩
  · cases pb
    · obtain ⟨c0, c1, c2, c3, c4, c5⟩ := id hE
      go_enter Tryd.func73, Tryd.ntmps73
      go_upto_region 3 with (fail)
      refine name_world fun W1 hW1 => ?_
      have hB1 : Below w.heap.size w W1 := by rw [hW1]; exact (Below.refl _ w).alloc (Nat.le_refl _) _
      have hb1 : WB W1 w.heap.size 7 0 0 0 ⟨#[]⟩ := by rw [hW1]; exact World.alloc_heap_new _ _
      clear hW1 c0 c1 c2 c3 c4 c5
      obtain ⟨c0, c1, c2, c3, c4, c5⟩ := hE.below hB1
      obtain ⟨k0, k1, k2, k3, k4, k5, l0, l1, l2, l3, l4⟩ := hb1.cells
      go_upto_region 24 with (fail)
      refine name_world fun W2 hW2 => ?_
      have hB2 : Below w.heap.size w W2 := by rw [hW2]; exact hB1.setCell (p := ⟨w.heap.size, 2, none⟩) (Nat.le_refl _) _
      have hb2 : WB W2 w.heap.size 7 0 f2 0 ⟨#[]⟩ := by rw [hW2]; exact blk_put hb1 2 _ rfl
      clear hW2 c0 c1 c2 c3 c4 c5 k0 k1 k2 k3 k4 k5 l0 l1 l2 l3 l4
      obtain ⟨c0, c1, c2, c3, c4, c5⟩ := hE.below hB2
      obtain ⟨k0, k1, k2, k3, k4, k5, l0, l1, l2, l3, l4⟩ := hb2.cells
      have HB2 := Lx.Hd.mk hB2
      have Hb2 := Lx.Hd.mk hb2
      have HG := Lx.Hd.mk (Keys.below hG hB2)
      have HE := Lx.Hd.mk hE
      clear hB1 hb1 hB2 hb2 hE hG
      first | (go_region_with ((go_at_call 61; refine (width_any f2 _).mono ?_; rintro e w3 ⟨rfl, rfl⟩))) | fail
      all_goals (go_wp2; go_ret; exact ⟨rfl, HB2.out.trans ⟨rfl, rfl, rfl, Nat.le_refl _, fun _ _ => rfl⟩⟩)
    · obtain ⟨c0, c1, c2, c3, c4, c5⟩ := id hE
      go_enter Tryd.func73, Tryd.ntmps73
      go_upto_region 3 with (fail)
      refine name_world fun W1 hW1 => ?_
      have hB1 : Below w.heap.size w W1 := by rw [hW1]; exact (Below.refl _ w).alloc (Nat.le_refl _) _
      have hb1 : WB W1 w.heap.size 7 0 0 0 ⟨#[]⟩ := by rw [hW1]; exact World.alloc_heap_new _ _
      clear hW1 c0 c1 c2 c3 c4 c5
      obtain ⟨c0, c1, c2, c3, c4, c5⟩ := hE.below hB1
      obtain ⟨k0, k1, k2, k3, k4, k5, l0, l1, l2, l3, l4⟩ := hb1.cells
      go_upto_region 24 with (fail)
      refine name_world fun W2 hW2 => ?_
      have hB2 : Below w.heap.size w W2 := by rw [hW2]; exact hB1.setCell (p := ⟨w.heap.size, 2, none⟩) (Nat.le_refl _) _
      have hb2 : WB W2 w.heap.size 7 0 f2 0 ⟨#[]⟩ := by rw [hW2]; exact blk_put hb1 2 _ rfl
      clear hW2 c0 c1 c2 c3 c4 c5 k0 k1 k2 k3 k4 k5 l0 l1 l2 l3 l4
      obtain ⟨c0, c1, c2, c3, c4, c5⟩ := hE.below hB2
      obtain ⟨k0, k1, k2, k3, k4, k5, l0, l1, l2, l3, l4⟩ := hb2.cells
      have HB2 := Lx.Hd.mk hB2
      have Hb2 := Lx.Hd.mk hb2
      have HG := Lx.Hd.mk (Keys.below hG hB2)
      have HE := Lx.Hd.mk hE
      clear hB1 hb1 hB2 hb2 hE hG
      first | (go_region_with (first | (go_at_call 61; refine (width_any f2 _).mono ?_; rintro e w3 ⟨rfl, rfl⟩) | (go_at_call 87; refine (same_val 7 f1 f2 f3 7 0 f2 0 f4 ⟨#[]⟩ A n c sb hsb.out _).mono ?_; rintro e w9 ⟨rfl, hb9⟩; have HB9 := Lx.Hd.mk hb9; clear hb9))) | fail
      all_goals (go_wp2; go_ret; exact ⟨rfl, HB2.out.trans (below_of (W := W2) HB9.out HB2.out.size ⟨rfl, rfl, rfl, rfl, rfl⟩)⟩)
end Go.Proofs.YtnjnadlgndjnbaaDoor.A
