/- Package ast: stmt, kind by kind. -/
import Derived.Test.YtnjnadlgndjnbaaDoorYAk
import Derived.Test.YtnjnadlgndjnbaaDoorYAg
set_option linter.unusedVariables false
set_option linter.unusedSimpArgs false
namespace Go.Proofs.YtnjnadlgndjnbaaDoor.A
open Go.RowKit Go.Shelf Go.Proofs.YtnjnadlgndjnbaaDoor.As Go.Proofs.YtnjnadlgndjnbaaDoorW.PrintWords Go.Proofs.YtnjnadlgndjnbaaDoorW.PrintLast Go.Proofs.YtnjnadlgndjnbaaDoorW.PrintMore
theorem alloc_ptr (w : World) (p : Option Addr) (t : TypeId) : (w.alloc (.cells #[.pointer p] t)).cell? ⟨w.heap.size, 0, none⟩ = some (.pointer p) := cell_new w (.pointer p) t
set_option maxRecDepth 100000 in
set_option maxHeartbeats 20000000 in
theorem stmt_1 (a : Addr) (f1 f2 f3 : Int) (f4 : ByteArray) (A5 A6 A7 A8 A9 : Option Addr) (n5 n6 n7 n8 n9 c5 c6 c7 c8 c9 : Nat) (w : World) (hl : (f1 < 0) = False) (hs : f4.size ≤ 140737488351232) (hG : Keys w) (hS : SC w a 1 f1 f2 f3 f4 A5 A6 A7 A8 A9 n5 n6 n7 n8 n9 c5 c6 c7 c8 c9) (hb pb qb : Bool)
    (HH : ∀ V, V.cell? ⟨w.heap.size, 0, none⟩ = some (.pointer (some a)) → SC V a 1 f1 f2 f3 f4 A5 A6 A7 A8 A9 n5 n6 n7 n8 n9 c5 c6 c7 c8 c9 → Calls Tryd.prog 90 #[.bool true, .bool false, .bool true, .bool false, .bool false, .bool true, .bool false, .bool false, .pointer (some ⟨w.heap.size, 0, none⟩)] V fun e w' => e = .returned (.bool hb) ∧ w' = V)
    (hpb : nameB f4 = pb) (hqb : decide (0 < widthI f2) = qb) :
    Calls Tryd.prog 74 #[.pointer (some a)] w fun e w' => e = .returned (.bool (hb && (pb && (qb)))) ∧ Below w.heap.size w w' := by
  have HHH := Lx.Hd.mk HH
  have HS := Lx.Hd.mk hS
  clear HH hS
  cases hb
  · go_enter Tryd.func74, Tryd.ntmps74
    go_upto_region 1 with (fail)
    refine name_world fun W1 hW1 => ?_
    have hB : Below w.heap.size w W1 := by rw [hW1]; exact (Below.refl _ w).alloc (Nat.le_refl _) _
    have c0 : W1.cell? ⟨w.heap.size, 0, none⟩ = some (.pointer (some a)) := by rw [hW1]; exact alloc_ptr _ _ _
    clear hW1
    obtain ⟨k0, k1, k2, k3, k4, k5, k6, k7, k8, k9⟩ := HS.out.below hB
    have HB := Lx.Hd.mk hB
    have HG := Lx.Hd.mk (Keys.below hG hB)
    clear hB hG
    go_wp2_with (first | (go_at_call 90; refine (HHH.out _ (by exact c0) (by exact ⟨k0, k1, k2, k3, k4, k5, k6, k7, k8, k9⟩)).mono ?_; rintro e' w2 ⟨rfl, rfl⟩))
    go_ret
    exact ⟨rfl, HB.out⟩
  cases pb
  · go_enter Tryd.func74, Tryd.ntmps74
    go_upto_region 1 with (fail)
    refine name_world fun W1 hW1 => ?_
    have hB : Below w.heap.size w W1 := by rw [hW1]; exact (Below.refl _ w).alloc (Nat.le_refl _) _
    have c0 : W1.cell? ⟨w.heap.size, 0, none⟩ = some (.pointer (some a)) := by rw [hW1]; exact alloc_ptr _ _ _
    clear hW1
    obtain ⟨k0, k1, k2, k3, k4, k5, k6, k7, k8, k9⟩ := HS.out.below hB
    have HB := Lx.Hd.mk hB
    have HG := Lx.Hd.mk (Keys.below hG hB)
    clear hB hG
    go_wp2_with (first | (go_at_call 90; refine (HHH.out _ (by exact c0) (by exact ⟨k0, k1, k2, k3, k4, k5, k6, k7, k8, k9⟩)).mono ?_; rintro e' w2 ⟨rfl, rfl⟩) | (go_at_call 48; refine (name_val f4 _ hpb _ hs (by exact HG.out)).mono ?_; rintro e' w3 ⟨rfl, hb3⟩; have q0 := pw_cell_below hb3 c0; have qS := HS.out.below (HB.out.trans (hb3.mono HB.out.size)); obtain ⟨z0, z1, z2, z3, z4, z5, z6, z7, z8, z9⟩ := qS; have HB3 := Lx.Hd.mk (HB.out.trans (hb3.mono HB.out.size)); clear hb3))
    go_ret
    exact ⟨rfl, HB3.out⟩
  cases qb
  · go_enter Tryd.func74, Tryd.ntmps74
    go_upto_region 1 with (fail)
    refine name_world fun W1 hW1 => ?_
    have hB : Below w.heap.size w W1 := by rw [hW1]; exact (Below.refl _ w).alloc (Nat.le_refl _) _
    have c0 : W1.cell? ⟨w.heap.size, 0, none⟩ = some (.pointer (some a)) := by rw [hW1]; exact alloc_ptr _ _ _
    clear hW1
    obtain ⟨k0, k1, k2, k3, k4, k5, k6, k7, k8, k9⟩ := HS.out.below hB
    have HB := Lx.Hd.mk hB
    have HG := Lx.Hd.mk (Keys.below hG hB)
    clear hB hG
    go_wp2_with (first | (go_at_call 90; refine (HHH.out _ (by exact c0) (by exact ⟨k0, k1, k2, k3, k4, k5, k6, k7, k8, k9⟩)).mono ?_; rintro e' w2 ⟨rfl, rfl⟩) | (go_at_call 48; refine (name_val f4 _ hpb _ hs (by exact HG.out)).mono ?_; rintro e' w3 ⟨rfl, hb3⟩; have q0 := pw_cell_below hb3 c0; have qS := HS.out.below (HB.out.trans (hb3.mono HB.out.size)); obtain ⟨z0, z1, z2, z3, z4, z5, z6, z7, z8, z9⟩ := qS; have HB3 := Lx.Hd.mk (HB.out.trans (hb3.mono HB.out.size)); clear hb3) | (go_at_call 61; refine (width_any f2 _).mono ?_; rintro e' w4 ⟨rfl, rfl⟩))
    go_ret
    exact ⟨rfl, HB3.out⟩
  go_enter Tryd.func74, Tryd.ntmps74
  go_upto_region 1 with (fail)
  refine name_world fun W1 hW1 => ?_
  have hB : Below w.heap.size w W1 := by rw [hW1]; exact (Below.refl _ w).alloc (Nat.le_refl _) _
  have c0 : W1.cell? ⟨w.heap.size, 0, none⟩ = some (.pointer (some a)) := by rw [hW1]; exact alloc_ptr _ _ _
  clear hW1
  obtain ⟨k0, k1, k2, k3, k4, k5, k6, k7, k8, k9⟩ := HS.out.below hB
  have HB := Lx.Hd.mk hB
  have HG := Lx.Hd.mk (Keys.below hG hB)
  clear hB hG
  go_wp2_with (first | (go_at_call 90; refine (HHH.out _ (by exact c0) (by exact ⟨k0, k1, k2, k3, k4, k5, k6, k7, k8, k9⟩)).mono ?_; rintro e' w2 ⟨rfl, rfl⟩) | (go_at_call 48; refine (name_val f4 _ hpb _ hs (by exact HG.out)).mono ?_; rintro e' w3 ⟨rfl, hb3⟩; have q0 := pw_cell_below hb3 c0; have qS := HS.out.below (HB.out.trans (hb3.mono HB.out.size)); obtain ⟨z0, z1, z2, z3, z4, z5, z6, z7, z8, z9⟩ := qS; have HB3 := Lx.Hd.mk (HB.out.trans (hb3.mono HB.out.size)); clear hb3) | (go_at_call 61; refine (width_any f2 _).mono ?_; rintro e' w4 ⟨rfl, rfl⟩))
  go_ret
  exact ⟨rfl, HB3.out⟩
set_option maxRecDepth 100000 in
set_option maxHeartbeats 20000000 in
theorem stmt_2 (a : Addr) (f1 f2 f3 : Int) (f4 : ByteArray) (A5 A6 A7 A8 A9 : Option Addr) (n5 n6 n7 n8 n9 c5 c6 c7 c8 c9 : Nat) (w : World) (hl : (f1 < 0) = False) (hs : f4.size ≤ 140737488351232) (hG : Keys w) (hS : SC w a 2 f1 f2 f3 f4 A5 A6 A7 A8 A9 n5 n6 n7 n8 n9 c5 c6 c7 c8 c9) (hb pb qb : Bool)
    (HH : ∀ V, V.cell? ⟨w.heap.size, 0, none⟩ = some (.pointer (some a)) → SC V a 2 f1 f2 f3 f4 A5 A6 A7 A8 A9 n5 n6 n7 n8 n9 c5 c6 c7 c8 c9 → Calls Tryd.prog 90 #[.bool false, .bool false, .bool true, .bool false, .bool true, .bool true, .bool false, .bool false, .pointer (some ⟨w.heap.size, 0, none⟩)] V fun e w' => e = .returned (.bool hb) ∧ w' = V)
    (hpb : nameB f4 = pb) (hqb : decide ((n6 : Int) ≤ 1) = qb) :
    Calls Tryd.prog 74 #[.pointer (some a)] w fun e w' => e = .returned (.bool (hb && (pb && (qb)))) ∧ Below w.heap.size w w' := by
  have HHH := Lx.Hd.mk HH
  have HS := Lx.Hd.mk hS
  clear HH hS
  cases hb
  · go_enter Tryd.func74, Tryd.ntmps74
    go_upto_region 1 with (fail)
    refine name_world fun W1 hW1 => ?_
    have hB : Below w.heap.size w W1 := by rw [hW1]; exact (Below.refl _ w).alloc (Nat.le_refl _) _
    have c0 : W1.cell? ⟨w.heap.size, 0, none⟩ = some (.pointer (some a)) := by rw [hW1]; exact alloc_ptr _ _ _
    clear hW1
    obtain ⟨k0, k1, k2, k3, k4, k5, k6, k7, k8, k9⟩ := HS.out.below hB
    have HB := Lx.Hd.mk hB
    have HG := Lx.Hd.mk (Keys.below hG hB)
    clear hB hG
    go_wp2_with (first | (go_at_call 90; refine (HHH.out _ (by exact c0) (by exact ⟨k0, k1, k2, k3, k4, k5, k6, k7, k8, k9⟩)).mono ?_; rintro e' w2 ⟨rfl, rfl⟩))
    go_ret
    exact ⟨rfl, HB.out⟩
  cases pb
  · go_enter Tryd.func74, Tryd.ntmps74
    go_upto_region 1 with (fail)
    refine name_world fun W1 hW1 => ?_
    have hB : Below w.heap.size w W1 := by rw [hW1]; exact (Below.refl _ w).alloc (Nat.le_refl _) _
    have c0 : W1.cell? ⟨w.heap.size, 0, none⟩ = some (.pointer (some a)) := by rw [hW1]; exact alloc_ptr _ _ _
    clear hW1
    obtain ⟨k0, k1, k2, k3, k4, k5, k6, k7, k8, k9⟩ := HS.out.below hB
    have HB := Lx.Hd.mk hB
    have HG := Lx.Hd.mk (Keys.below hG hB)
    clear hB hG
    go_wp2_with (first | (go_at_call 90; refine (HHH.out _ (by exact c0) (by exact ⟨k0, k1, k2, k3, k4, k5, k6, k7, k8, k9⟩)).mono ?_; rintro e' w2 ⟨rfl, rfl⟩) | (go_at_call 48; refine (name_val f4 _ hpb _ hs (by exact HG.out)).mono ?_; rintro e' w3 ⟨rfl, hb3⟩; have q0 := pw_cell_below hb3 c0; have qS := HS.out.below (HB.out.trans (hb3.mono HB.out.size)); obtain ⟨z0, z1, z2, z3, z4, z5, z6, z7, z8, z9⟩ := qS; have HB3 := Lx.Hd.mk (HB.out.trans (hb3.mono HB.out.size)); clear hb3))
    go_ret
    exact ⟨rfl, HB3.out⟩
  cases qb
  · go_enter Tryd.func74, Tryd.ntmps74
    go_upto_region 1 with (fail)
    refine name_world fun W1 hW1 => ?_
    have hB : Below w.heap.size w W1 := by rw [hW1]; exact (Below.refl _ w).alloc (Nat.le_refl _) _
    have c0 : W1.cell? ⟨w.heap.size, 0, none⟩ = some (.pointer (some a)) := by rw [hW1]; exact alloc_ptr _ _ _
    clear hW1
    obtain ⟨k0, k1, k2, k3, k4, k5, k6, k7, k8, k9⟩ := HS.out.below hB
    have HB := Lx.Hd.mk hB
    have HG := Lx.Hd.mk (Keys.below hG hB)
    clear hB hG
    go_wp2_with (first | (go_at_call 90; refine (HHH.out _ (by exact c0) (by exact ⟨k0, k1, k2, k3, k4, k5, k6, k7, k8, k9⟩)).mono ?_; rintro e' w2 ⟨rfl, rfl⟩) | (go_at_call 48; refine (name_val f4 _ hpb _ hs (by exact HG.out)).mono ?_; rintro e' w3 ⟨rfl, hb3⟩; have q0 := pw_cell_below hb3 c0; have qS := HS.out.below (HB.out.trans (hb3.mono HB.out.size)); obtain ⟨z0, z1, z2, z3, z4, z5, z6, z7, z8, z9⟩ := qS; have HB3 := Lx.Hd.mk (HB.out.trans (hb3.mono HB.out.size)); clear hb3))
    go_ret
    exact ⟨rfl, HB3.out⟩
  go_enter Tryd.func74, Tryd.ntmps74
  go_upto_region 1 with (fail)
  refine name_world fun W1 hW1 => ?_
  have hB : Below w.heap.size w W1 := by rw [hW1]; exact (Below.refl _ w).alloc (Nat.le_refl _) _
  have c0 : W1.cell? ⟨w.heap.size, 0, none⟩ = some (.pointer (some a)) := by rw [hW1]; exact alloc_ptr _ _ _
  clear hW1
  obtain ⟨k0, k1, k2, k3, k4, k5, k6, k7, k8, k9⟩ := HS.out.below hB
  have HB := Lx.Hd.mk hB
  have HG := Lx.Hd.mk (Keys.below hG hB)
  clear hB hG
  go_wp2_with (first | (go_at_call 90; refine (HHH.out _ (by exact c0) (by exact ⟨k0, k1, k2, k3, k4, k5, k6, k7, k8, k9⟩)).mono ?_; rintro e' w2 ⟨rfl, rfl⟩) | (go_at_call 48; refine (name_val f4 _ hpb _ hs (by exact HG.out)).mono ?_; rintro e' w3 ⟨rfl, hb3⟩; have q0 := pw_cell_below hb3 c0; have qS := HS.out.below (HB.out.trans (hb3.mono HB.out.size)); obtain ⟨z0, z1, z2, z3, z4, z5, z6, z7, z8, z9⟩ := qS; have HB3 := Lx.Hd.mk (HB.out.trans (hb3.mono HB.out.size)); clear hb3))
  go_ret
  exact ⟨rfl, HB3.out⟩
set_option maxRecDepth 100000 in
set_option maxHeartbeats 20000000 in
theorem stmt_4 (a : Addr) (f1 f2 f3 : Int) (f4 : ByteArray) (A5 A6 A7 A8 A9 : Option Addr) (n5 n6 n7 n8 n9 c5 c6 c7 c8 c9 : Nat) (w : World) (hl : (f1 < 0) = False) (hs : f4.size ≤ 140737488351232) (hG : Keys w) (hS : SC w a 4 f1 f2 f3 f4 A5 A6 A7 A8 A9 n5 n6 n7 n8 n9 c5 c6 c7 c8 c9) (hb : Bool)
    (HH : ∀ V, V.cell? ⟨w.heap.size, 0, none⟩ = some (.pointer (some a)) → SC V a 4 f1 f2 f3 f4 A5 A6 A7 A8 A9 n5 n6 n7 n8 n9 c5 c6 c7 c8 c9 → Calls Tryd.prog 90 #[.bool false, .bool false, .bool false, .bool false, .bool false, .bool true, .bool true, .bool true, .pointer (some ⟨w.heap.size, 0, none⟩)] V fun e w' => e = .returned (.bool hb) ∧ w' = V)
     :
    Calls Tryd.prog 74 #[.pointer (some a)] w fun e w' => e = .returned (.bool (hb)) ∧ Below w.heap.size w w' := by
  have HHH := Lx.Hd.mk HH
  have HS := Lx.Hd.mk hS
  clear HH hS
  cases hb
  · go_enter Tryd.func74, Tryd.ntmps74
    go_upto_region 1 with (fail)
    refine name_world fun W1 hW1 => ?_
    have hB : Below w.heap.size w W1 := by rw [hW1]; exact (Below.refl _ w).alloc (Nat.le_refl _) _
    have c0 : W1.cell? ⟨w.heap.size, 0, none⟩ = some (.pointer (some a)) := by rw [hW1]; exact alloc_ptr _ _ _
    clear hW1
    obtain ⟨k0, k1, k2, k3, k4, k5, k6, k7, k8, k9⟩ := HS.out.below hB
    have HB := Lx.Hd.mk hB
    have HG := Lx.Hd.mk (Keys.below hG hB)
    clear hB hG
    go_wp2_with (first | (go_at_call 90; refine (HHH.out _ (by exact c0) (by exact ⟨k0, k1, k2, k3, k4, k5, k6, k7, k8, k9⟩)).mono ?_; rintro e' w2 ⟨rfl, rfl⟩))
    go_ret
    exact ⟨rfl, HB.out⟩
  go_enter Tryd.func74, Tryd.ntmps74
  go_upto_region 1 with (fail)
  refine name_world fun W1 hW1 => ?_
  have hB : Below w.heap.size w W1 := by rw [hW1]; exact (Below.refl _ w).alloc (Nat.le_refl _) _
  have c0 : W1.cell? ⟨w.heap.size, 0, none⟩ = some (.pointer (some a)) := by rw [hW1]; exact alloc_ptr _ _ _
  clear hW1
  obtain ⟨k0, k1, k2, k3, k4, k5, k6, k7, k8, k9⟩ := HS.out.below hB
  have HB := Lx.Hd.mk hB
  have HG := Lx.Hd.mk (Keys.below hG hB)
  clear hB hG
  go_wp2_with (first | (go_at_call 90; refine (HHH.out _ (by exact c0) (by exact ⟨k0, k1, k2, k3, k4, k5, k6, k7, k8, k9⟩)).mono ?_; rintro e' w2 ⟨rfl, rfl⟩))
  go_ret
  exact ⟨rfl, HB.out⟩
set_option maxRecDepth 100000 in
set_option maxHeartbeats 20000000 in
theorem stmt_5 (a : Addr) (f1 f2 f3 : Int) (f4 : ByteArray) (A5 A6 A7 A8 A9 : Option Addr) (n5 n6 n7 n8 n9 c5 c6 c7 c8 c9 : Nat) (w : World) (hl : (f1 < 0) = False) (hs : f4.size ≤ 140737488351232) (hG : Keys w) (hS : SC w a 5 f1 f2 f3 f4 A5 A6 A7 A8 A9 n5 n6 n7 n8 n9 c5 c6 c7 c8 c9) (hb : Bool)
    (HH : ∀ V, V.cell? ⟨w.heap.size, 0, none⟩ = some (.pointer (some a)) → SC V a 5 f1 f2 f3 f4 A5 A6 A7 A8 A9 n5 n6 n7 n8 n9 c5 c6 c7 c8 c9 → Calls Tryd.prog 90 #[.bool false, .bool false, .bool false, .bool false, .bool false, .bool true, .bool true, .bool false, .pointer (some ⟨w.heap.size, 0, none⟩)] V fun e w' => e = .returned (.bool hb) ∧ w' = V)
     :
    Calls Tryd.prog 74 #[.pointer (some a)] w fun e w' => e = .returned (.bool (hb)) ∧ Below w.heap.size w w' := by
  have HHH := Lx.Hd.mk HH
  have HS := Lx.Hd.mk hS
  clear HH hS
  cases hb
  · go_enter Tryd.func74, Tryd.ntmps74
    go_upto_region 1 with (fail)
    refine name_world fun W1 hW1 => ?_
    have hB : Below w.heap.size w W1 := by rw [hW1]; exact (Below.refl _ w).alloc (Nat.le_refl _) _
    have c0 : W1.cell? ⟨w.heap.size, 0, none⟩ = some (.pointer (some a)) := by rw [hW1]; exact alloc_ptr _ _ _
    clear hW1
    obtain ⟨k0, k1, k2, k3, k4, k5, k6, k7, k8, k9⟩ := HS.out.below hB
    have HB := Lx.Hd.mk hB
    have HG := Lx.Hd.mk (Keys.below hG hB)
    clear hB hG
    go_wp2_with (first | (go_at_call 90; refine (HHH.out _ (by exact c0) (by exact ⟨k0, k1, k2, k3, k4, k5, k6, k7, k8, k9⟩)).mono ?_; rintro e' w2 ⟨rfl, rfl⟩))
    go_ret
    exact ⟨rfl, HB.out⟩
  go_enter Tryd.func74, Tryd.ntmps74
  go_upto_region 1 with (fail)
  refine name_world fun W1 hW1 => ?_
  have hB : Below w.heap.size w W1 := by rw [hW1]; exact (Below.refl _ w).alloc (Nat.le_refl _) _
  have c0 : W1.cell? ⟨w.heap.size, 0, none⟩ = some (.pointer (some a)) := by rw [hW1]; exact alloc_ptr _ _ _
  clear hW1
  obtain ⟨k0, k1, k2, k3, k4, k5, k6, k7, k8, k9⟩ := HS.out.below hB
  have HB := Lx.Hd.mk hB
  have HG := Lx.Hd.mk (Keys.below hG hB)
  clear hB hG
  go_wp2_with (first | (go_at_call 90; refine (HHH.out _ (by exact c0) (by exact ⟨k0, k1, k2, k3, k4, k5, k6, k7, k8, k9⟩)).mono ?_; rintro e' w2 ⟨rfl, rfl⟩))
  go_ret
  exact ⟨rfl, HB.out⟩
set_option maxRecDepth 100000 in
set_option maxHeartbeats 20000000 in
theorem stmt_6 (a : Addr) (f1 f2 f3 : Int) (f4 : ByteArray) (A5 A6 A7 A8 A9 : Option Addr) (n5 n6 n7 n8 n9 c5 c6 c7 c8 c9 : Nat) (w : World) (hl : (f1 < 0) = False) (hs : f4.size ≤ 140737488351232) (hG : Keys w) (hS : SC w a 6 f1 f2 f3 f4 A5 A6 A7 A8 A9 n5 n6 n7 n8 n9 c5 c6 c7 c8 c9) (hb : Bool)
    (HH : ∀ V, V.cell? ⟨w.heap.size, 0, none⟩ = some (.pointer (some a)) → SC V a 6 f1 f2 f3 f4 A5 A6 A7 A8 A9 n5 n6 n7 n8 n9 c5 c6 c7 c8 c9 → Calls Tryd.prog 90 #[.bool false, .bool false, .bool false, .bool false, .bool false, .bool true, .bool false, .bool false, .pointer (some ⟨w.heap.size, 0, none⟩)] V fun e w' => e = .returned (.bool hb) ∧ w' = V)
     :
    Calls Tryd.prog 74 #[.pointer (some a)] w fun e w' => e = .returned (.bool (hb)) ∧ Below w.heap.size w w' := by
  have HHH := Lx.Hd.mk HH
  have HS := Lx.Hd.mk hS
  clear HH hS
  cases hb
  · go_enter Tryd.func74, Tryd.ntmps74
    go_upto_region 1 with (fail)
    refine name_world fun W1 hW1 => ?_
    have hB : Below w.heap.size w W1 := by rw [hW1]; exact (Below.refl _ w).alloc (Nat.le_refl _) _
    have c0 : W1.cell? ⟨w.heap.size, 0, none⟩ = some (.pointer (some a)) := by rw [hW1]; exact alloc_ptr _ _ _
    clear hW1
    obtain ⟨k0, k1, k2, k3, k4, k5, k6, k7, k8, k9⟩ := HS.out.below hB
    have HB := Lx.Hd.mk hB
    have HG := Lx.Hd.mk (Keys.below hG hB)
    clear hB hG
    go_wp2_with (first | (go_at_call 90; refine (HHH.out _ (by exact c0) (by exact ⟨k0, k1, k2, k3, k4, k5, k6, k7, k8, k9⟩)).mono ?_; rintro e' w2 ⟨rfl, rfl⟩))
    go_ret
    exact ⟨rfl, HB.out⟩
  go_enter Tryd.func74, Tryd.ntmps74
  go_upto_region 1 with (fail)
  refine name_world fun W1 hW1 => ?_
  have hB : Below w.heap.size w W1 := by rw [hW1]; exact (Below.refl _ w).alloc (Nat.le_refl _) _
  have c0 : W1.cell? ⟨w.heap.size, 0, none⟩ = some (.pointer (some a)) := by rw [hW1]; exact alloc_ptr _ _ _
  clear hW1
  obtain ⟨k0, k1, k2, k3, k4, k5, k6, k7, k8, k9⟩ := HS.out.below hB
  have HB := Lx.Hd.mk hB
  have HG := Lx.Hd.mk (Keys.below hG hB)
  clear hB hG
  go_wp2_with (first | (go_at_call 90; refine (HHH.out _ (by exact c0) (by exact ⟨k0, k1, k2, k3, k4, k5, k6, k7, k8, k9⟩)).mono ?_; rintro e' w2 ⟨rfl, rfl⟩))
  go_ret
  exact ⟨rfl, HB.out⟩
set_option maxRecDepth 100000 in
set_option maxHeartbeats 20000000 in
theorem stmt_7 (a : Addr) (f1 f2 f3 : Int) (f4 : ByteArray) (A5 A6 A7 A8 A9 : Option Addr) (n5 n6 n7 n8 n9 c5 c6 c7 c8 c9 : Nat) (w : World) (hl : (f1 < 0) = False) (hs : f4.size ≤ 140737488351232) (hG : Keys w) (hS : SC w a 7 f1 f2 f3 f4 A5 A6 A7 A8 A9 n5 n6 n7 n8 n9 c5 c6 c7 c8 c9) (hb pb qb : Bool)
    (HH : ∀ V, V.cell? ⟨w.heap.size, 0, none⟩ = some (.pointer (some a)) → SC V a 7 f1 f2 f3 f4 A5 A6 A7 A8 A9 n5 n6 n7 n8 n9 c5 c6 c7 c8 c9 → Calls Tryd.prog 90 #[.bool false, .bool true, .bool false, .bool false, .bool false, .bool false, .bool false, .bool false, .pointer (some ⟨w.heap.size, 0, none⟩)] V fun e w' => e = .returned (.bool hb) ∧ w' = V)
    (hpb : decide (0 ≤ f3) = pb) (hqb : decide (f3 ≤ 31) = qb) :
    Calls Tryd.prog 74 #[.pointer (some a)] w fun e w' => e = .returned (.bool (hb && (pb && (qb)))) ∧ Below w.heap.size w w' := by
  have HHH := Lx.Hd.mk HH
  have HS := Lx.Hd.mk hS
  clear HH hS
  cases hb
  · go_enter Tryd.func74, Tryd.ntmps74
    go_upto_region 1 with (fail)
    refine name_world fun W1 hW1 => ?_
    have hB : Below w.heap.size w W1 := by rw [hW1]; exact (Below.refl _ w).alloc (Nat.le_refl _) _
    have c0 : W1.cell? ⟨w.heap.size, 0, none⟩ = some (.pointer (some a)) := by rw [hW1]; exact alloc_ptr _ _ _
    clear hW1
    obtain ⟨k0, k1, k2, k3, k4, k5, k6, k7, k8, k9⟩ := HS.out.below hB
    have HB := Lx.Hd.mk hB
    have HG := Lx.Hd.mk (Keys.below hG hB)
    clear hB hG
    go_wp2_with (first | (go_at_call 90; refine (HHH.out _ (by exact c0) (by exact ⟨k0, k1, k2, k3, k4, k5, k6, k7, k8, k9⟩)).mono ?_; rintro e' w2 ⟨rfl, rfl⟩))
    go_ret
    exact ⟨rfl, HB.out⟩
  cases pb
  · go_enter Tryd.func74, Tryd.ntmps74
    go_upto_region 1 with (fail)
    refine name_world fun W1 hW1 => ?_
    have hB : Below w.heap.size w W1 := by rw [hW1]; exact (Below.refl _ w).alloc (Nat.le_refl _) _
    have c0 : W1.cell? ⟨w.heap.size, 0, none⟩ = some (.pointer (some a)) := by rw [hW1]; exact alloc_ptr _ _ _
    clear hW1
    obtain ⟨k0, k1, k2, k3, k4, k5, k6, k7, k8, k9⟩ := HS.out.below hB
    have HB := Lx.Hd.mk hB
    have HG := Lx.Hd.mk (Keys.below hG hB)
    clear hB hG
    go_wp2_with (first | (go_at_call 90; refine (HHH.out _ (by exact c0) (by exact ⟨k0, k1, k2, k3, k4, k5, k6, k7, k8, k9⟩)).mono ?_; rintro e' w2 ⟨rfl, rfl⟩))
    go_ret
    exact ⟨rfl, HB.out⟩
  cases qb
  · go_enter Tryd.func74, Tryd.ntmps74
    go_upto_region 1 with (fail)
    refine name_world fun W1 hW1 => ?_
    have hB : Below w.heap.size w W1 := by rw [hW1]; exact (Below.refl _ w).alloc (Nat.le_refl _) _
    have c0 : W1.cell? ⟨w.heap.size, 0, none⟩ = some (.pointer (some a)) := by rw [hW1]; exact alloc_ptr _ _ _
    clear hW1
    obtain ⟨k0, k1, k2, k3, k4, k5, k6, k7, k8, k9⟩ := HS.out.below hB
    have HB := Lx.Hd.mk hB
    have HG := Lx.Hd.mk (Keys.below hG hB)
    clear hB hG
    go_wp2_with (first | (go_at_call 90; refine (HHH.out _ (by exact c0) (by exact ⟨k0, k1, k2, k3, k4, k5, k6, k7, k8, k9⟩)).mono ?_; rintro e' w2 ⟨rfl, rfl⟩))
    go_ret
    exact ⟨rfl, HB.out⟩
  go_enter Tryd.func74, Tryd.ntmps74
  go_upto_region 1 with (fail)
  refine name_world fun W1 hW1 => ?_
  have hB : Below w.heap.size w W1 := by rw [hW1]; exact (Below.refl _ w).alloc (Nat.le_refl _) _
  have c0 : W1.cell? ⟨w.heap.size, 0, none⟩ = some (.pointer (some a)) := by rw [hW1]; exact alloc_ptr _ _ _
  clear hW1
  obtain ⟨k0, k1, k2, k3, k4, k5, k6, k7, k8, k9⟩ := HS.out.below hB
  have HB := Lx.Hd.mk hB
  have HG := Lx.Hd.mk (Keys.below hG hB)
  clear hB hG
  go_wp2_with (first | (go_at_call 90; refine (HHH.out _ (by exact c0) (by exact ⟨k0, k1, k2, k3, k4, k5, k6, k7, k8, k9⟩)).mono ?_; rintro e' w2 ⟨rfl, rfl⟩))
  go_ret
  exact ⟨rfl, HB.out⟩
set_option maxRecDepth 100000 in
set_option maxHeartbeats 20000000 in
theorem stmt_8 (a : Addr) (f1 f2 f3 : Int) (f4 : ByteArray) (A5 A6 A7 A8 A9 : Option Addr) (n5 n6 n7 n8 n9 c5 c6 c7 c8 c9 : Nat) (w : World) (hl : (f1 < 0) = False) (hs : f4.size ≤ 140737488351232) (hG : Keys w) (hS : SC w a 8 f1 f2 f3 f4 A5 A6 A7 A8 A9 n5 n6 n7 n8 n9 c5 c6 c7 c8 c9) (hb pb qb : Bool)
    (HH : ∀ V, V.cell? ⟨w.heap.size, 0, none⟩ = some (.pointer (some a)) → SC V a 8 f1 f2 f3 f4 A5 A6 A7 A8 A9 n5 n6 n7 n8 n9 c5 c6 c7 c8 c9 → Calls Tryd.prog 90 #[.bool false, .bool true, .bool false, .bool false, .bool false, .bool false, .bool false, .bool false, .pointer (some ⟨w.heap.size, 0, none⟩)] V fun e w' => e = .returned (.bool hb) ∧ w' = V)
    (hpb : decide (0 ≤ f3) = pb) (hqb : decide (f3 ≤ 31) = qb) :
    Calls Tryd.prog 74 #[.pointer (some a)] w fun e w' => e = .returned (.bool (hb && (pb && (qb)))) ∧ Below w.heap.size w w' := by
  have HHH := Lx.Hd.mk HH
  have HS := Lx.Hd.mk hS
  clear HH hS
  cases hb
  · go_enter Tryd.func74, Tryd.ntmps74
    go_upto_region 1 with (fail)
    refine name_world fun W1 hW1 => ?_
    have hB : Below w.heap.size w W1 := by rw [hW1]; exact (Below.refl _ w).alloc (Nat.le_refl _) _
    have c0 : W1.cell? ⟨w.heap.size, 0, none⟩ = some (.pointer (some a)) := by rw [hW1]; exact alloc_ptr _ _ _
    clear hW1
    obtain ⟨k0, k1, k2, k3, k4, k5, k6, k7, k8, k9⟩ := HS.out.below hB
    have HB := Lx.Hd.mk hB
    have HG := Lx.Hd.mk (Keys.below hG hB)
    clear hB hG
    go_wp2_with (first | (go_at_call 90; refine (HHH.out _ (by exact c0) (by exact ⟨k0, k1, k2, k3, k4, k5, k6, k7, k8, k9⟩)).mono ?_; rintro e' w2 ⟨rfl, rfl⟩))
    go_ret
    exact ⟨rfl, HB.out⟩
  cases pb
  · go_enter Tryd.func74, Tryd.ntmps74
    go_upto_region 1 with (fail)
    refine name_world fun W1 hW1 => ?_
    have hB : Below w.heap.size w W1 := by rw [hW1]; exact (Below.refl _ w).alloc (Nat.le_refl _) _
    have c0 : W1.cell? ⟨w.heap.size, 0, none⟩ = some (.pointer (some a)) := by rw [hW1]; exact alloc_ptr _ _ _
    clear hW1
    obtain ⟨k0, k1, k2, k3, k4, k5, k6, k7, k8, k9⟩ := HS.out.below hB
    have HB := Lx.Hd.mk hB
    have HG := Lx.Hd.mk (Keys.below hG hB)
    clear hB hG
    go_wp2_with (first | (go_at_call 90; refine (HHH.out _ (by exact c0) (by exact ⟨k0, k1, k2, k3, k4, k5, k6, k7, k8, k9⟩)).mono ?_; rintro e' w2 ⟨rfl, rfl⟩))
    go_ret
    exact ⟨rfl, HB.out⟩
  cases qb
  · go_enter Tryd.func74, Tryd.ntmps74
    go_upto_region 1 with (fail)
    refine name_world fun W1 hW1 => ?_
    have hB : Below w.heap.size w W1 := by rw [hW1]; exact (Below.refl _ w).alloc (Nat.le_refl _) _
    have c0 : W1.cell? ⟨w.heap.size, 0, none⟩ = some (.pointer (some a)) := by rw [hW1]; exact alloc_ptr _ _ _
    clear hW1
    obtain ⟨k0, k1, k2, k3, k4, k5, k6, k7, k8, k9⟩ := HS.out.below hB
    have HB := Lx.Hd.mk hB
    have HG := Lx.Hd.mk (Keys.below hG hB)
    clear hB hG
    go_wp2_with (first | (go_at_call 90; refine (HHH.out _ (by exact c0) (by exact ⟨k0, k1, k2, k3, k4, k5, k6, k7, k8, k9⟩)).mono ?_; rintro e' w2 ⟨rfl, rfl⟩))
    go_ret
    exact ⟨rfl, HB.out⟩
  go_enter Tryd.func74, Tryd.ntmps74
  go_upto_region 1 with (fail)
  refine name_world fun W1 hW1 => ?_
  have hB : Below w.heap.size w W1 := by rw [hW1]; exact (Below.refl _ w).alloc (Nat.le_refl _) _
  have c0 : W1.cell? ⟨w.heap.size, 0, none⟩ = some (.pointer (some a)) := by rw [hW1]; exact alloc_ptr _ _ _
  clear hW1
  obtain ⟨k0, k1, k2, k3, k4, k5, k6, k7, k8, k9⟩ := HS.out.below hB
  have HB := Lx.Hd.mk hB
  have HG := Lx.Hd.mk (Keys.below hG hB)
  clear hB hG
  go_wp2_with (first | (go_at_call 90; refine (HHH.out _ (by exact c0) (by exact ⟨k0, k1, k2, k3, k4, k5, k6, k7, k8, k9⟩)).mono ?_; rintro e' w2 ⟨rfl, rfl⟩))
  go_ret
  exact ⟨rfl, HB.out⟩
set_option maxRecDepth 100000 in
set_option maxHeartbeats 20000000 in
theorem stmt_9 (a : Addr) (f1 f2 f3 : Int) (f4 : ByteArray) (A5 A6 A7 A8 A9 : Option Addr) (n5 n6 n7 n8 n9 c5 c6 c7 c8 c9 : Nat) (w : World) (hl : (f1 < 0) = False) (hs : f4.size ≤ 140737488351232) (hG : Keys w) (hS : SC w a 9 f1 f2 f3 f4 A5 A6 A7 A8 A9 n5 n6 n7 n8 n9 c5 c6 c7 c8 c9) (hb pb qb : Bool)
    (HH : ∀ V, V.cell? ⟨w.heap.size, 0, none⟩ = some (.pointer (some a)) → SC V a 9 f1 f2 f3 f4 A5 A6 A7 A8 A9 n5 n6 n7 n8 n9 c5 c6 c7 c8 c9 → Calls Tryd.prog 90 #[.bool false, .bool true, .bool false, .bool false, .bool false, .bool false, .bool false, .bool false, .pointer (some ⟨w.heap.size, 0, none⟩)] V fun e w' => e = .returned (.bool hb) ∧ w' = V)
    (hpb : decide (0 ≤ f3) = pb) (hqb : decide (f3 ≤ 15) = qb) :
    Calls Tryd.prog 74 #[.pointer (some a)] w fun e w' => e = .returned (.bool (hb && (pb && (qb)))) ∧ Below w.heap.size w w' := by
  have HHH := Lx.Hd.mk HH
  have HS := Lx.Hd.mk hS
  clear HH hS
  cases hb
  · go_enter Tryd.func74, Tryd.ntmps74
    go_upto_region 1 with (fail)
    refine name_world fun W1 hW1 => ?_
    have hB : Below w.heap.size w W1 := by rw [hW1]; exact (Below.refl _ w).alloc (Nat.le_refl _) _
    have c0 : W1.cell? ⟨w.heap.size, 0, none⟩ = some (.pointer (some a)) := by rw [hW1]; exact alloc_ptr _ _ _
    clear hW1
    obtain ⟨k0, k1, k2, k3, k4, k5, k6, k7, k8, k9⟩ := HS.out.below hB
    have HB := Lx.Hd.mk hB
    have HG := Lx.Hd.mk (Keys.below hG hB)
    clear hB hG
    go_wp2_with (first | (go_at_call 90; refine (HHH.out _ (by exact c0) (by exact ⟨k0, k1, k2, k3, k4, k5, k6, k7, k8, k9⟩)).mono ?_; rintro e' w2 ⟨rfl, rfl⟩))
    go_ret
    exact ⟨rfl, HB.out⟩
  cases pb
  · go_enter Tryd.func74, Tryd.ntmps74
    go_upto_region 1 with (fail)
    refine name_world fun W1 hW1 => ?_
    have hB : Below w.heap.size w W1 := by rw [hW1]; exact (Below.refl _ w).alloc (Nat.le_refl _) _
    have c0 : W1.cell? ⟨w.heap.size, 0, none⟩ = some (.pointer (some a)) := by rw [hW1]; exact alloc_ptr _ _ _
    clear hW1
    obtain ⟨k0, k1, k2, k3, k4, k5, k6, k7, k8, k9⟩ := HS.out.below hB
    have HB := Lx.Hd.mk hB
    have HG := Lx.Hd.mk (Keys.below hG hB)
    clear hB hG
    go_wp2_with (first | (go_at_call 90; refine (HHH.out _ (by exact c0) (by exact ⟨k0, k1, k2, k3, k4, k5, k6, k7, k8, k9⟩)).mono ?_; rintro e' w2 ⟨rfl, rfl⟩))
    go_ret
    exact ⟨rfl, HB.out⟩
  cases qb
  · go_enter Tryd.func74, Tryd.ntmps74
    go_upto_region 1 with (fail)
    refine name_world fun W1 hW1 => ?_
    have hB : Below w.heap.size w W1 := by rw [hW1]; exact (Below.refl _ w).alloc (Nat.le_refl _) _
    have c0 : W1.cell? ⟨w.heap.size, 0, none⟩ = some (.pointer (some a)) := by rw [hW1]; exact alloc_ptr _ _ _
    clear hW1
    obtain ⟨k0, k1, k2, k3, k4, k5, k6, k7, k8, k9⟩ := HS.out.below hB
    have HB := Lx.Hd.mk hB
    have HG := Lx.Hd.mk (Keys.below hG hB)
    clear hB hG
    go_wp2_with (first | (go_at_call 90; refine (HHH.out _ (by exact c0) (by exact ⟨k0, k1, k2, k3, k4, k5, k6, k7, k8, k9⟩)).mono ?_; rintro e' w2 ⟨rfl, rfl⟩))
    go_ret
    exact ⟨rfl, HB.out⟩
  go_enter Tryd.func74, Tryd.ntmps74
  go_upto_region 1 with (fail)
  refine name_world fun W1 hW1 => ?_
  have hB : Below w.heap.size w W1 := by rw [hW1]; exact (Below.refl _ w).alloc (Nat.le_refl _) _
  have c0 : W1.cell? ⟨w.heap.size, 0, none⟩ = some (.pointer (some a)) := by rw [hW1]; exact alloc_ptr _ _ _
  clear hW1
  obtain ⟨k0, k1, k2, k3, k4, k5, k6, k7, k8, k9⟩ := HS.out.below hB
  have HB := Lx.Hd.mk hB
  have HG := Lx.Hd.mk (Keys.below hG hB)
  clear hB hG
  go_wp2_with (first | (go_at_call 90; refine (HHH.out _ (by exact c0) (by exact ⟨k0, k1, k2, k3, k4, k5, k6, k7, k8, k9⟩)).mono ?_; rintro e' w2 ⟨rfl, rfl⟩))
  go_ret
  exact ⟨rfl, HB.out⟩
set_option maxRecDepth 100000 in
theorem stmt_neg (a : Addr) (f0 f1 f2 f3 : Int) (f4 : ByteArray) (A5 A6 A7 A8 A9 : Option Addr) (n5 n6 n7 n8 n9 c5 c6 c7 c8 c9 : Nat) (w : World) (hs : f4.size ≤ 140737488351232) (hG : Keys w) (hS : SC w a f0 f1 f2 f3 f4 A5 A6 A7 A8 A9 n5 n6 n7 n8 n9 c5 c6 c7 c8 c9) (hl : (f1 < 0) = True) :
    Calls Tryd.prog 74 #[.pointer (some a)] w fun e w' => e = .returned (.bool (false)) ∧ Below w.heap.size w w' := by
  have HS := Lx.Hd.mk hS
  clear hS
  go_enter Tryd.func74, Tryd.ntmps74
  go_upto_region 1 with (fail)
  refine name_world fun W1 hW1 => ?_
  have hB : Below w.heap.size w W1 := by rw [hW1]; exact (Below.refl _ w).alloc (Nat.le_refl _) _
  have c0 : W1.cell? ⟨w.heap.size, 0, none⟩ = some (.pointer (some a)) := by rw [hW1]; exact alloc_ptr _ _ _
  clear hW1
  obtain ⟨k0, k1, k2, k3, k4, k5, k6, k7, k8, k9⟩ := HS.out.below hB
  have HB := Lx.Hd.mk hB
  have HG := Lx.Hd.mk (Keys.below hG hB)
  clear hB hG
  go_wp2
  go_ret
  exact ⟨rfl, HB.out⟩
set_option maxRecDepth 100000 in
theorem stmt_0 (a : Addr) (f0 f1 f2 f3 : Int) (f4 : ByteArray) (A5 A6 A7 A8 A9 : Option Addr) (n5 n6 n7 n8 n9 c5 c6 c7 c8 c9 : Nat) (w : World) (hs : f4.size ≤ 140737488351232) (hG : Keys w) (hS : SC w a f0 f1 f2 f3 f4 A5 A6 A7 A8 A9 n5 n6 n7 n8 n9 c5 c6 c7 c8 c9) (hl : (f1 < 0) = False) (h1 : (f0 == 1) = false) (h2 : (f0 == 2) = false) (h3 : (f0 == 3) = false) (h4 : (f0 == 4) = false) (h5 : (f0 == 5) = false) (h6 : (f0 == 6) = false) (h7 : (f0 == 7) = false) (h8 : (f0 == 8) = false) (h9 : (f0 == 9) = false) (h10 : (f0 == 10) = false) :
    Calls Tryd.prog 74 #[.pointer (some a)] w fun e w' => e = .returned (.bool (false)) ∧ Below w.heap.size w w' := by
  have HS := Lx.Hd.mk hS
  clear hS
  go_enter Tryd.func74, Tryd.ntmps74
  go_upto_region 1 with (fail)
  refine name_world fun W1 hW1 => ?_
  have hB : Below w.heap.size w W1 := by rw [hW1]; exact (Below.refl _ w).alloc (Nat.le_refl _) _
  have c0 : W1.cell? ⟨w.heap.size, 0, none⟩ = some (.pointer (some a)) := by rw [hW1]; exact alloc_ptr _ _ _
  clear hW1
  obtain ⟨k0, k1, k2, k3, k4, k5, k6, k7, k8, k9⟩ := HS.out.below hB
  have HB := Lx.Hd.mk hB
  have HG := Lx.Hd.mk (Keys.below hG hB)
  clear hB hG
  go_wp2
  go_ret
  exact ⟨rfl, HB.out⟩
set_option maxRecDepth 100000 in
set_option maxHeartbeats 20000000 in
theorem stmt_3 (a : Addr) (f1 f2 f3 : Int) (f4 : ByteArray) (A5 A6 A7 A8 A9 : Option Addr) (n5 n6 n7 n8 n9 c5 c6 c7 c8 c9 : Nat) (w : World) (hl : (f1 < 0) = False) (hs : f4.size ≤ 140737488351232) (hG : Keys w) (hS : SC w a 3 f1 f2 f3 f4 A5 A6 A7 A8 A9 n5 n6 n7 n8 n9 c5 c6 c7 c8 c9) (hb pb : Bool)
    (HH : ∀ V, V.cell? ⟨w.heap.size, 0, none⟩ = some (.pointer (some a)) → SC V a 3 f1 f2 f3 f4 A5 A6 A7 A8 A9 n5 n6 n7 n8 n9 c5 c6 c7 c8 c9 → Calls Tryd.prog 90 #[.bool false, .bool false, .bool false, .bool false, .bool false, .bool true, .bool false, .bool false, .pointer (some ⟨w.heap.size, 0, none⟩)] V fun e w' => e = .returned (.bool hb) ∧ w' = V)
    (ad : Addr) (g0 : Int) (hX : hb = true → n7 = 1 ∧ A7 = some ad ∧ w.cell? ad = some (.int .i64 g0)) (hpb : (g0 == 4) = pb) :
    Calls Tryd.prog 74 #[.pointer (some a)] w fun e w' => e = .returned (.bool (hb && pb)) ∧ Below w.heap.size w w' := by
  have HHH := Lx.Hd.mk HH
  have HS := Lx.Hd.mk hS
  clear HH hS
  cases hb
  · clear hX
    go_enter Tryd.func74, Tryd.ntmps74
    go_upto_region 1 with (fail)
    refine name_world fun W1 hW1 => ?_
    have hB : Below w.heap.size w W1 := by rw [hW1]; exact (Below.refl _ w).alloc (Nat.le_refl _) _
    have c0 : W1.cell? ⟨w.heap.size, 0, none⟩ = some (.pointer (some a)) := by rw [hW1]; exact alloc_ptr _ _ _
    clear hW1
    obtain ⟨k0, k1, k2, k3, k4, k5, k6, k7, k8, k9⟩ := HS.out.below hB
    have HB := Lx.Hd.mk hB
    have HG := Lx.Hd.mk (Keys.below hG hB)
    clear hB hG
    go_wp2_with (go_at_call 90; refine (HHH.out _ (by exact c0) (by exact ⟨k0, k1, k2, k3, k4, k5, k6, k7, k8, k9⟩)).mono ?_; rintro e' w2 ⟨rfl, rfl⟩)
    go_ret
    exact ⟨rfl, HB.out⟩
  · obtain ⟨rfl, rfl, hg⟩ := hX rfl
    clear hX
    have HGc := Lx.Hd.mk hg
    clear hg
    go_enter Tryd.func74, Tryd.ntmps74
    go_upto_region 1 with (fail)
    refine name_world fun W1 hW1 => ?_
    have hB : Below w.heap.size w W1 := by rw [hW1]; exact (Below.refl _ w).alloc (Nat.le_refl _) _
    have c0 : W1.cell? ⟨w.heap.size, 0, none⟩ = some (.pointer (some a)) := by rw [hW1]; exact alloc_ptr _ _ _
    clear hW1
    obtain ⟨k0, k1, k2, k3, k4, k5, k6, k7, k8, k9⟩ := HS.out.below hB
    have HB := Lx.Hd.mk hB
    have HG := Lx.Hd.mk (Keys.below hG hB)
    clear hB hG
    have z0 := pw_cell_below HB.out HGc.out
    go_wp2_with (go_at_call 90; refine (HHH.out _ (by exact c0) (by exact ⟨k0, k1, k2, k3, k4, k5, k6, k7, k8, k9⟩)).mono ?_; rintro e' w2 ⟨rfl, rfl⟩)
    go_ret
    exact ⟨by rw [← hpb]; rfl, HB.out⟩
theorem contains_val (A : Option Addr) (c : Nat) (l : List ByteArray) (b : Bool) (h : l.all nameB = b) (w : World) (hC : Kd.string.C w A l.length l) (hs : ∀ x ∈ l, x.size ≤ 140737488351232) (hG : Keys w) :
    Calls Tryd.prog 91 #[.slice A l.length c, .func (.func 92) #[] #[]] w fun e w' => e = .returned (.bool (!b)) ∧ Below w.heap.size w w' := by rw [← h]; exact contains_bad A c l w hC hs hG
set_option maxRecDepth 100000 in
set_option maxHeartbeats 20000000 in
theorem stmt_10 (a : Addr) (f1 f2 f3 : Int) (f4 : ByteArray) (A5 A6 A7 A8 A9 : Option Addr) (n6 n7 n8 n9 c5 c6 c7 c8 c9 : Nat) (w : World) (l5 : List ByteArray) (hC : Kd.string.C w A5 l5.length l5) (h5 : ∀ x ∈ l5, x.size ≤ 140737488351232) (hl : (f1 < 0) = False) (hs : f4.size ≤ 140737488351232) (hG : Keys w) (hS : SC w a 10 f1 f2 f3 f4 A5 A6 A7 A8 A9 l5.length n6 n7 n8 n9 c5 c6 c7 c8 c9) (hb pb qb : Bool)
    (HH : ∀ V, V.cell? ⟨w.heap.size, 0, none⟩ = some (.pointer (some a)) → SC V a 10 f1 f2 f3 f4 A5 A6 A7 A8 A9 l5.length n6 n7 n8 n9 c5 c6 c7 c8 c9 → Calls Tryd.prog 90 #[.bool false, .bool false, .bool false, .bool true, .bool false, .bool false, .bool true, .bool false, .pointer (some ⟨w.heap.size, 0, none⟩)] V fun e w' => e = .returned (.bool hb) ∧ w' = V)
    (hpb : decide (1 ≤ (l5.length : Int)) = pb) (hqb : l5.all nameB = qb) :
    Calls Tryd.prog 74 #[.pointer (some a)] w fun e w' => e = .returned (.bool (hb && (pb && qb))) ∧ Below w.heap.size w w' := by
  have HHH := Lx.Hd.mk HH
  have HS := Lx.Hd.mk hS
  clear HH hS
  cases hb
  · go_enter Tryd.func74, Tryd.ntmps74
    go_upto_region 1 with (fail)
    refine name_world fun W1 hW1 => ?_
    have hB : Below w.heap.size w W1 := by rw [hW1]; exact (Below.refl _ w).alloc (Nat.le_refl _) _
    have c0 : W1.cell? ⟨w.heap.size, 0, none⟩ = some (.pointer (some a)) := by rw [hW1]; exact alloc_ptr _ _ _
    clear hW1
    obtain ⟨k0, k1, k2, k3, k4, k5, k6, k7, k8, k9⟩ := HS.out.below hB
    have HB := Lx.Hd.mk hB
    have HG := Lx.Hd.mk (Keys.below hG hB)
    clear hB hG
    go_wp2_with (go_at_call 90; refine (HHH.out _ (by exact c0) (by exact ⟨k0, k1, k2, k3, k4, k5, k6, k7, k8, k9⟩)).mono ?_; rintro e' w2 ⟨rfl, rfl⟩)
    go_ret
    exact ⟨rfl, HB.out⟩
  cases pb
  · go_enter Tryd.func74, Tryd.ntmps74
    go_upto_region 1 with (fail)
    refine name_world fun W1 hW1 => ?_
    have hB : Below w.heap.size w W1 := by rw [hW1]; exact (Below.refl _ w).alloc (Nat.le_refl _) _
    have c0 : W1.cell? ⟨w.heap.size, 0, none⟩ = some (.pointer (some a)) := by rw [hW1]; exact alloc_ptr _ _ _
    clear hW1
    obtain ⟨k0, k1, k2, k3, k4, k5, k6, k7, k8, k9⟩ := HS.out.below hB
    have HB := Lx.Hd.mk hB
    have HG := Lx.Hd.mk (Keys.below hG hB)
    clear hB hG
    go_wp2_with (go_at_call 90; refine (HHH.out _ (by exact c0) (by exact ⟨k0, k1, k2, k3, k4, k5, k6, k7, k8, k9⟩)).mono ?_; rintro e' w2 ⟨rfl, rfl⟩)
    go_ret
    exact ⟨rfl, HB.out⟩
  cases qb
  · go_enter Tryd.func74, Tryd.ntmps74
    go_upto_region 1 with (fail)
    refine name_world fun W1 hW1 => ?_
    have hB : Below w.heap.size w W1 := by rw [hW1]; exact (Below.refl _ w).alloc (Nat.le_refl _) _
    have c0 : W1.cell? ⟨w.heap.size, 0, none⟩ = some (.pointer (some a)) := by rw [hW1]; exact alloc_ptr _ _ _
    clear hW1
    obtain ⟨k0, k1, k2, k3, k4, k5, k6, k7, k8, k9⟩ := HS.out.below hB
    have HB := Lx.Hd.mk hB
    have HG := Lx.Hd.mk (Keys.below hG hB)
    clear hB hG
    have HC := Lx.Hd.mk (Kd.C_below hC HB.out)
    go_wp2_with (first | (go_at_call 90; refine (HHH.out _ (by exact c0) (by exact ⟨k0, k1, k2, k3, k4, k5, k6, k7, k8, k9⟩)).mono ?_; rintro e' w2 ⟨rfl, rfl⟩) | (go_at_call 91; refine (contains_val A5 c5 l5 _ hqb _ (by exact HC.out) h5 (by exact HG.out)).mono ?_; rintro e' w3 ⟨rfl, hb3⟩; have HB3 := Lx.Hd.mk (HB.out.trans (hb3.mono HB.out.size)); clear hb3))
    go_ret
    exact ⟨rfl, HB3.out⟩
  go_enter Tryd.func74, Tryd.ntmps74
  go_upto_region 1 with (fail)
  refine name_world fun W1 hW1 => ?_
  have hB : Below w.heap.size w W1 := by rw [hW1]; exact (Below.refl _ w).alloc (Nat.le_refl _) _
  have c0 : W1.cell? ⟨w.heap.size, 0, none⟩ = some (.pointer (some a)) := by rw [hW1]; exact alloc_ptr _ _ _
  clear hW1
  obtain ⟨k0, k1, k2, k3, k4, k5, k6, k7, k8, k9⟩ := HS.out.below hB
  have HB := Lx.Hd.mk hB
  have HG := Lx.Hd.mk (Keys.below hG hB)
  clear hB hG
  have HC := Lx.Hd.mk (Kd.C_below hC HB.out)
  go_wp2_with (first | (go_at_call 90; refine (HHH.out _ (by exact c0) (by exact ⟨k0, k1, k2, k3, k4, k5, k6, k7, k8, k9⟩)).mono ?_; rintro e' w2 ⟨rfl, rfl⟩) | (go_at_call 91; refine (contains_val A5 c5 l5 _ hqb _ (by exact HC.out) h5 (by exact HG.out)).mono ?_; rintro e' w3 ⟨rfl, hb3⟩; have HB3 := Lx.Hd.mk (HB.out.trans (hb3.mono HB.out.size)); clear hb3))
  go_ret
  exact ⟨rfl, HB3.out⟩
end Go.Proofs.YtnjnadlgndjnbaaDoor.A
