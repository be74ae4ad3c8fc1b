/- Package ast: what the closure of stmt says of a statement's fields. -/
import Derived.Test.YtgkhpecllhiidaaDoorAf
set_option linter.unusedVariables false
set_option linter.unusedSimpArgs false
namespace Go.Proofs.YtgkhpecllhiidaaDoor.A
open Go.RowKit Go.Shelf Go.Proofs.YtgkhpecllhiidaaDoor.As Go.Proofs.YtgkhpecllhiidaaDoorW.PrintWords Go.Proofs.YtgkhpecllhiidaaDoorW.PrintLast Go.Proofs.YtgkhpecllhiidaaDoorW.PrintMore

/-- The ten cells of a statement. -/
structure SC (w : World) (a : Addr) (f0 f1 f2 f3 : Int) (f4 : ByteArray) (A5 A6 A7 A8 A9 : Option Addr) (n5 n6 n7 n8 n9 c5 c6 c7 c8 c9 : Nat) : Prop where
  k0 : w.cell? a = some (.int .i64 f0)
  k1 : w.cell? ⟨a.block, a.off + 1, none⟩ = some (.int .i64 f1)
  k2 : w.cell? ⟨a.block, a.off + 2, none⟩ = some (.int .i64 f2)
  k3 : w.cell? ⟨a.block, a.off + 3, none⟩ = some (.int .i64 f3)
  k4 : w.cell? ⟨a.block, a.off + 4, none⟩ = some (.string f4)
  k5 : w.cell? ⟨a.block, a.off + 5, none⟩ = some (.slice A5 n5 c5)
  k6 : w.cell? ⟨a.block, a.off + 6, none⟩ = some (.slice A6 n6 c6)
  k7 : w.cell? ⟨a.block, a.off + 7, none⟩ = some (.slice A7 n7 c7)
  k8 : w.cell? ⟨a.block, a.off + 8, none⟩ = some (.slice A8 n8 c8)
  k9 : w.cell? ⟨a.block, a.off + 9, none⟩ = some (.slice A9 n9 c9)
theorem SC.below {w W : World} {a : Addr} {f0 f1 f2 f3 : Int} {f4 : ByteArray} {A5 A6 A7 A8 A9 : Option Addr} {n5 n6 n7 n8 n9 c5 c6 c7 c8 c9 : Nat} (h : SC w a f0 f1 f2 f3 f4 A5 A6 A7 A8 A9 n5 n6 n7 n8 n9 c5 c6 c7 c8 c9) (hb : Below w.heap.size w W) : SC W a f0 f1 f2 f3 f4 A5 A6 A7 A8 A9 n5 n6 n7 n8 n9 c5 c6 c7 c8 c9 :=
  ⟨pw_cell_below hb h.k0, pw_cell_below hb h.k1, pw_cell_below hb h.k2, pw_cell_below hb h.k3, pw_cell_below hb h.k4, pw_cell_below hb h.k5, pw_cell_below hb h.k6, pw_cell_below hb h.k7, pw_cell_below hb h.k8, pw_cell_below hb h.k9⟩

set_option maxRecDepth 100000 in
set_option maxHeartbeats 20000000 in
theorem has_let (a : Addr) (B : Nat) (f0 f1 f2 f3 : Int) (f4 : ByteArray) (A5 A6 A7 A8 A9 : Option Addr) (n5 n6 n7 n8 n9 c5 c6 c7 c8 c9 : Nat) (w : World) (hB : w.cell? ⟨B, 0, none⟩ = some (.pointer (some a))) (hS : SC w a f0 f1 f2 f3 f4 A5 A6 A7 A8 A9 n5 n6 n7 n8 n9 c5 c6 c7 c8 c9) :
    Calls Tryd.prog 141 #[.bool true, .bool false, .bool true, .bool false, .bool false, .bool true, .bool false, .bool false, .pointer (some ⟨B, 0, none⟩)] w fun e w' => e = .returned (.bool ((f3 == 0) && (((n5 : Int) == 0) && (((n6 : Int) == 0) && (((n7 : Int) == 1) && (((n8 : Int) == 0) && (((n9 : Int) == 0)))))))) ∧ w' = w := by
  obtain ⟨k0, k1, k2, k3, k4, k5, k6, k7, k8, k9⟩ := hS
  cases h0 : (f3 == 0)
  · go_enter Tryd.func141, Tryd.ntmps141
    (try simp only [List.append_eq, List.cons_append, List.nil_append])
    go_wp2
    go_ret
    exact ⟨rfl, rfl⟩
  cases h1 : ((n5 : Int) == 0)
  · go_enter Tryd.func141, Tryd.ntmps141
    (try simp only [List.append_eq, List.cons_append, List.nil_append])
    go_wp2
    go_ret
    exact ⟨rfl, rfl⟩
  cases h2 : ((n6 : Int) == 0)
  · go_enter Tryd.func141, Tryd.ntmps141
    (try simp only [List.append_eq, List.cons_append, List.nil_append])
    go_wp2
    go_ret
    exact ⟨rfl, rfl⟩
  cases h3 : ((n7 : Int) == 1)
  · go_enter Tryd.func141, Tryd.ntmps141
    (try simp only [List.append_eq, List.cons_append, List.nil_append])
    go_wp2
    go_ret
    exact ⟨rfl, rfl⟩
  cases h4 : ((n8 : Int) == 0)
  · go_enter Tryd.func141, Tryd.ntmps141
    (try simp only [List.append_eq, List.cons_append, List.nil_append])
    go_wp2
    go_ret
    exact ⟨rfl, rfl⟩
  cases h5 : ((n9 : Int) == 0)
  · go_enter Tryd.func141, Tryd.ntmps141
    (try simp only [List.append_eq, List.cons_append, List.nil_append])
    go_wp2
    go_ret
    exact ⟨rfl, rfl⟩
  go_enter Tryd.func141, Tryd.ntmps141
  (try simp only [List.append_eq, List.cons_append, List.nil_append])
  go_wp2
  go_ret
  exact ⟨rfl, rfl⟩
set_option maxRecDepth 100000 in
set_option maxHeartbeats 20000000 in
theorem has_set (a : Addr) (B : Nat) (f0 f1 f2 f3 : Int) (f4 : ByteArray) (A5 A6 A7 A8 A9 : Option Addr) (n5 n6 n7 n8 n9 c5 c6 c7 c8 c9 : Nat) (w : World) (hB : w.cell? ⟨B, 0, none⟩ = some (.pointer (some a))) (hS : SC w a f0 f1 f2 f3 f4 A5 A6 A7 A8 A9 n5 n6 n7 n8 n9 c5 c6 c7 c8 c9) :
    Calls Tryd.prog 141 #[.bool false, .bool false, .bool true, .bool false, .bool true, .bool true, .bool false, .bool false, .pointer (some ⟨B, 0, none⟩)] w fun e w' => e = .returned (.bool ((f2 == 0) && ((f3 == 0) && (((n5 : Int) == 0) && (((n7 : Int) == 1) && (((n8 : Int) == 0) && (((n9 : Int) == 0)))))))) ∧ w' = w := by
  obtain ⟨k0, k1, k2, k3, k4, k5, k6, k7, k8, k9⟩ := hS
  cases h0 : (f2 == 0)
  · go_enter Tryd.func141, Tryd.ntmps141
    (try simp only [List.append_eq, List.cons_append, List.nil_append])
    go_wp2
    go_ret
    exact ⟨rfl, rfl⟩
  cases h1 : (f3 == 0)
  · go_enter Tryd.func141, Tryd.ntmps141
    (try simp only [List.append_eq, List.cons_append, List.nil_append])
    go_wp2
    go_ret
    exact ⟨rfl, rfl⟩
  cases h2 : ((n5 : Int) == 0)
  · go_enter Tryd.func141, Tryd.ntmps141
    (try simp only [List.append_eq, List.cons_append, List.nil_append])
    go_wp2
    go_ret
    exact ⟨rfl, rfl⟩
  cases h3 : ((n7 : Int) == 1)
  · go_enter Tryd.func141, Tryd.ntmps141
    (try simp only [List.append_eq, List.cons_append, List.nil_append])
    go_wp2
    go_ret
    exact ⟨rfl, rfl⟩
  cases h4 : ((n8 : Int) == 0)
  · go_enter Tryd.func141, Tryd.ntmps141
    (try simp only [List.append_eq, List.cons_append, List.nil_append])
    go_wp2
    go_ret
    exact ⟨rfl, rfl⟩
  cases h5 : ((n9 : Int) == 0)
  · go_enter Tryd.func141, Tryd.ntmps141
    (try simp only [List.append_eq, List.cons_append, List.nil_append])
    go_wp2
    go_ret
    exact ⟨rfl, rfl⟩
  go_enter Tryd.func141, Tryd.ntmps141
  (try simp only [List.append_eq, List.cons_append, List.nil_append])
  go_wp2
  go_ret
  exact ⟨rfl, rfl⟩
set_option maxRecDepth 100000 in
set_option maxHeartbeats 20000000 in
theorem has_one (a : Addr) (B : Nat) (f0 f1 f2 f3 : Int) (f4 : ByteArray) (A5 A6 A7 A8 A9 : Option Addr) (n5 n6 n7 n8 n9 c5 c6 c7 c8 c9 : Nat) (w : World) (hB : w.cell? ⟨B, 0, none⟩ = some (.pointer (some a))) (hS : SC w a f0 f1 f2 f3 f4 A5 A6 A7 A8 A9 n5 n6 n7 n8 n9 c5 c6 c7 c8 c9) :
    Calls Tryd.prog 141 #[.bool false, .bool false, .bool false, .bool false, .bool false, .bool true, .bool false, .bool false, .pointer (some ⟨B, 0, none⟩)] w fun e w' => e = .returned (.bool ((f2 == 0) && ((f3 == 0) && ((f4.toList == []) && (((n5 : Int) == 0) && (((n6 : Int) == 0) && (((n7 : Int) == 1) && (((n8 : Int) == 0) && (((n9 : Int) == 0)))))))))) ∧ w' = w := by
  obtain ⟨k0, k1, k2, k3, k4, k5, k6, k7, k8, k9⟩ := hS
  cases h0 : (f2 == 0)
  · go_enter Tryd.func141, Tryd.ntmps141
    (try simp only [List.append_eq, List.cons_append, List.nil_append])
    go_wp2
    go_ret
    exact ⟨rfl, rfl⟩
  cases h1 : (f3 == 0)
  · go_enter Tryd.func141, Tryd.ntmps141
    (try simp only [List.append_eq, List.cons_append, List.nil_append])
    go_wp2
    go_ret
    exact ⟨rfl, rfl⟩
  cases h2 : (f4.toList == [])
  · have h2' : f4.toList.isEmpty = false := by revert h2; cases f4.toList <;> simp
    go_enter Tryd.func141, Tryd.ntmps141
    (try simp only [List.append_eq, List.cons_append, List.nil_append])
    go_wp2
    go_ret
    exact ⟨rfl, rfl⟩
  have h2' : f4.toList.isEmpty = true := by revert h2; cases f4.toList <;> simp
  cases h3 : ((n5 : Int) == 0)
  · go_enter Tryd.func141, Tryd.ntmps141
    (try simp only [List.append_eq, List.cons_append, List.nil_append])
    go_wp2
    go_ret
    exact ⟨rfl, rfl⟩
  cases h4 : ((n6 : Int) == 0)
  · go_enter Tryd.func141, Tryd.ntmps141
    (try simp only [List.append_eq, List.cons_append, List.nil_append])
    go_wp2
    go_ret
    exact ⟨rfl, rfl⟩
  cases h5 : ((n7 : Int) == 1)
  · go_enter Tryd.func141, Tryd.ntmps141
    (try simp only [List.append_eq, List.cons_append, List.nil_append])
    go_wp2
    go_ret
    exact ⟨rfl, rfl⟩
  cases h6 : ((n8 : Int) == 0)
  · go_enter Tryd.func141, Tryd.ntmps141
    (try simp only [List.append_eq, List.cons_append, List.nil_append])
    go_wp2
    go_ret
    exact ⟨rfl, rfl⟩
  cases h7 : ((n9 : Int) == 0)
  · go_enter Tryd.func141, Tryd.ntmps141
    (try simp only [List.append_eq, List.cons_append, List.nil_append])
    go_wp2
    go_ret
    exact ⟨rfl, rfl⟩
  go_enter Tryd.func141, Tryd.ntmps141
  (try simp only [List.append_eq, List.cons_append, List.nil_append])
  go_wp2
  go_ret
  exact ⟨rfl, rfl⟩
set_option maxRecDepth 100000 in
set_option maxHeartbeats 20000000 in
theorem has_iff (a : Addr) (B : Nat) (f0 f1 f2 f3 : Int) (f4 : ByteArray) (A5 A6 A7 A8 A9 : Option Addr) (n5 n6 n7 n8 n9 c5 c6 c7 c8 c9 : Nat) (w : World) (hB : w.cell? ⟨B, 0, none⟩ = some (.pointer (some a))) (hS : SC w a f0 f1 f2 f3 f4 A5 A6 A7 A8 A9 n5 n6 n7 n8 n9 c5 c6 c7 c8 c9) :
    Calls Tryd.prog 141 #[.bool false, .bool false, .bool false, .bool false, .bool false, .bool true, .bool true, .bool true, .pointer (some ⟨B, 0, none⟩)] w fun e w' => e = .returned (.bool ((f2 == 0) && ((f3 == 0) && ((f4.toList == []) && (((n5 : Int) == 0) && (((n6 : Int) == 0) && (((n7 : Int) == 1)))))))) ∧ w' = w := by
  obtain ⟨k0, k1, k2, k3, k4, k5, k6, k7, k8, k9⟩ := hS
  cases h0 : (f2 == 0)
  · go_enter Tryd.func141, Tryd.ntmps141
    (try simp only [List.append_eq, List.cons_append, List.nil_append])
    go_wp2
    go_ret
    exact ⟨rfl, rfl⟩
  cases h1 : (f3 == 0)
  · go_enter Tryd.func141, Tryd.ntmps141
    (try simp only [List.append_eq, List.cons_append, List.nil_append])
    go_wp2
    go_ret
    exact ⟨rfl, rfl⟩
  cases h2 : (f4.toList == [])
  · have h2' : f4.toList.isEmpty = false := by revert h2; cases f4.toList <;> simp
    go_enter Tryd.func141, Tryd.ntmps141
    (try simp only [List.append_eq, List.cons_append, List.nil_append])
    go_wp2
    go_ret
    exact ⟨rfl, rfl⟩
  have h2' : f4.toList.isEmpty = true := by revert h2; cases f4.toList <;> simp
  cases h3 : ((n5 : Int) == 0)
  · go_enter Tryd.func141, Tryd.ntmps141
    (try simp only [List.append_eq, List.cons_append, List.nil_append])
    go_wp2
    go_ret
    exact ⟨rfl, rfl⟩
  cases h4 : ((n6 : Int) == 0)
  · go_enter Tryd.func141, Tryd.ntmps141
    (try simp only [List.append_eq, List.cons_append, List.nil_append])
    go_wp2
    go_ret
    exact ⟨rfl, rfl⟩
  cases h5 : ((n7 : Int) == 1)
  · go_enter Tryd.func141, Tryd.ntmps141
    (try simp only [List.append_eq, List.cons_append, List.nil_append])
    go_wp2
    go_ret
    exact ⟨rfl, rfl⟩
  go_enter Tryd.func141, Tryd.ntmps141
  (try simp only [List.append_eq, List.cons_append, List.nil_append])
  go_wp2
  go_ret
  exact ⟨rfl, rfl⟩
set_option maxRecDepth 100000 in
set_option maxHeartbeats 20000000 in
theorem has_whl (a : Addr) (B : Nat) (f0 f1 f2 f3 : Int) (f4 : ByteArray) (A5 A6 A7 A8 A9 : Option Addr) (n5 n6 n7 n8 n9 c5 c6 c7 c8 c9 : Nat) (w : World) (hB : w.cell? ⟨B, 0, none⟩ = some (.pointer (some a))) (hS : SC w a f0 f1 f2 f3 f4 A5 A6 A7 A8 A9 n5 n6 n7 n8 n9 c5 c6 c7 c8 c9) :
    Calls Tryd.prog 141 #[.bool false, .bool false, .bool false, .bool false, .bool false, .bool true, .bool true, .bool false, .pointer (some ⟨B, 0, none⟩)] w fun e w' => e = .returned (.bool ((f2 == 0) && ((f3 == 0) && ((f4.toList == []) && (((n5 : Int) == 0) && (((n6 : Int) == 0) && (((n7 : Int) == 1) && (((n9 : Int) == 0))))))))) ∧ w' = w := by
  obtain ⟨k0, k1, k2, k3, k4, k5, k6, k7, k8, k9⟩ := hS
  cases h0 : (f2 == 0)
  · go_enter Tryd.func141, Tryd.ntmps141
    (try simp only [List.append_eq, List.cons_append, List.nil_append])
    go_wp2
    go_ret
    exact ⟨rfl, rfl⟩
  cases h1 : (f3 == 0)
  · go_enter Tryd.func141, Tryd.ntmps141
    (try simp only [List.append_eq, List.cons_append, List.nil_append])
    go_wp2
    go_ret
    exact ⟨rfl, rfl⟩
  cases h2 : (f4.toList == [])
  · have h2' : f4.toList.isEmpty = false := by revert h2; cases f4.toList <;> simp
    go_enter Tryd.func141, Tryd.ntmps141
    (try simp only [List.append_eq, List.cons_append, List.nil_append])
    go_wp2
    go_ret
    exact ⟨rfl, rfl⟩
  have h2' : f4.toList.isEmpty = true := by revert h2; cases f4.toList <;> simp
  cases h3 : ((n5 : Int) == 0)
  · go_enter Tryd.func141, Tryd.ntmps141
    (try simp only [List.append_eq, List.cons_append, List.nil_append])
    go_wp2
    go_ret
    exact ⟨rfl, rfl⟩
  cases h4 : ((n6 : Int) == 0)
  · go_enter Tryd.func141, Tryd.ntmps141
    (try simp only [List.append_eq, List.cons_append, List.nil_append])
    go_wp2
    go_ret
    exact ⟨rfl, rfl⟩
  cases h5 : ((n7 : Int) == 1)
  · go_enter Tryd.func141, Tryd.ntmps141
    (try simp only [List.append_eq, List.cons_append, List.nil_append])
    go_wp2
    go_ret
    exact ⟨rfl, rfl⟩
  cases h6 : ((n9 : Int) == 0)
  · go_enter Tryd.func141, Tryd.ntmps141
    (try simp only [List.append_eq, List.cons_append, List.nil_append])
    go_wp2
    go_ret
    exact ⟨rfl, rfl⟩
  go_enter Tryd.func141, Tryd.ntmps141
  (try simp only [List.append_eq, List.cons_append, List.nil_append])
  go_wp2
  go_ret
  exact ⟨rfl, rfl⟩
set_option maxRecDepth 100000 in
set_option maxHeartbeats 20000000 in
theorem has_num (a : Addr) (B : Nat) (f0 f1 f2 f3 : Int) (f4 : ByteArray) (A5 A6 A7 A8 A9 : Option Addr) (n5 n6 n7 n8 n9 c5 c6 c7 c8 c9 : Nat) (w : World) (hB : w.cell? ⟨B, 0, none⟩ = some (.pointer (some a))) (hS : SC w a f0 f1 f2 f3 f4 A5 A6 A7 A8 A9 n5 n6 n7 n8 n9 c5 c6 c7 c8 c9) :
    Calls Tryd.prog 141 #[.bool false, .bool true, .bool false, .bool false, .bool false, .bool false, .bool false, .bool false, .pointer (some ⟨B, 0, none⟩)] w fun e w' => e = .returned (.bool ((f2 == 0) && ((f4.toList == []) && (((n5 : Int) == 0) && (((n6 : Int) == 0) && (!((n7 : Int) == 1) && (((n7 : Int) == 0) && (((n8 : Int) == 0) && (((n9 : Int) == 0)))))))))) ∧ w' = w := by
  obtain ⟨k0, k1, k2, k3, k4, k5, k6, k7, k8, k9⟩ := hS
  cases h0 : (f2 == 0)
  · go_enter Tryd.func141, Tryd.ntmps141
    (try simp only [List.append_eq, List.cons_append, List.nil_append])
    go_wp2
    go_ret
    exact ⟨rfl, rfl⟩
  cases h1 : (f4.toList == [])
  · have h1' : f4.toList.isEmpty = false := by revert h1; cases f4.toList <;> simp
    go_enter Tryd.func141, Tryd.ntmps141
    (try simp only [List.append_eq, List.cons_append, List.nil_append])
    go_wp2
    go_ret
    exact ⟨rfl, rfl⟩
  have h1' : f4.toList.isEmpty = true := by revert h1; cases f4.toList <;> simp
  cases h2 : ((n5 : Int) == 0)
  · go_enter Tryd.func141, Tryd.ntmps141
    (try simp only [List.append_eq, List.cons_append, List.nil_append])
    go_wp2
    go_ret
    exact ⟨rfl, rfl⟩
  cases h3 : ((n6 : Int) == 0)
  · go_enter Tryd.func141, Tryd.ntmps141
    (try simp only [List.append_eq, List.cons_append, List.nil_append])
    go_wp2
    go_ret
    exact ⟨rfl, rfl⟩
  cases h4 : ((n7 : Int) == 1)
  case true =>
    go_enter Tryd.func141, Tryd.ntmps141
    (try simp only [List.append_eq, List.cons_append, List.nil_append])
    go_wp2
    go_ret
    exact ⟨rfl, rfl⟩
  cases h5 : ((n7 : Int) == 0)
  · go_enter Tryd.func141, Tryd.ntmps141
    (try simp only [List.append_eq, List.cons_append, List.nil_append])
    go_wp2
    go_ret
    exact ⟨rfl, rfl⟩
  cases h6 : ((n8 : Int) == 0)
  · go_enter Tryd.func141, Tryd.ntmps141
    (try simp only [List.append_eq, List.cons_append, List.nil_append])
    go_wp2
    go_ret
    exact ⟨rfl, rfl⟩
  cases h7 : ((n9 : Int) == 0)
  · go_enter Tryd.func141, Tryd.ntmps141
    (try simp only [List.append_eq, List.cons_append, List.nil_append])
    go_wp2
    go_ret
    exact ⟨rfl, rfl⟩
  go_enter Tryd.func141, Tryd.ntmps141
  (try simp only [List.append_eq, List.cons_append, List.nil_append])
  go_wp2
  go_ret
  exact ⟨rfl, rfl⟩
set_option maxRecDepth 100000 in
set_option maxHeartbeats 20000000 in
theorem has_atm (a : Addr) (B : Nat) (f0 f1 f2 f3 : Int) (f4 : ByteArray) (A5 A6 A7 A8 A9 : Option Addr) (n5 n6 n7 n8 n9 c5 c6 c7 c8 c9 : Nat) (w : World) (hB : w.cell? ⟨B, 0, none⟩ = some (.pointer (some a))) (hS : SC w a f0 f1 f2 f3 f4 A5 A6 A7 A8 A9 n5 n6 n7 n8 n9 c5 c6 c7 c8 c9) :
    Calls Tryd.prog 141 #[.bool false, .bool false, .bool false, .bool true, .bool false, .bool false, .bool true, .bool false, .pointer (some ⟨B, 0, none⟩)] w fun e w' => e = .returned (.bool ((f2 == 0) && ((f3 == 0) && ((f4.toList == []) && (((n6 : Int) == 0) && (!((n7 : Int) == 1) && (((n7 : Int) == 0) && (((n9 : Int) == 0))))))))) ∧ w' = w := by
  obtain ⟨k0, k1, k2, k3, k4, k5, k6, k7, k8, k9⟩ := hS
  cases h0 : (f2 == 0)
  · go_enter Tryd.func141, Tryd.ntmps141
    (try simp only [List.append_eq, List.cons_append, List.nil_append])
    go_wp2
    go_ret
    exact ⟨rfl, rfl⟩
  cases h1 : (f3 == 0)
  · go_enter Tryd.func141, Tryd.ntmps141
    (try simp only [List.append_eq, List.cons_append, List.nil_append])
    go_wp2
    go_ret
    exact ⟨rfl, rfl⟩
  cases h2 : (f4.toList == [])
  · have h2' : f4.toList.isEmpty = false := by revert h2; cases f4.toList <;> simp
    go_enter Tryd.func141, Tryd.ntmps141
    (try simp only [List.append_eq, List.cons_append, List.nil_append])
    go_wp2
    go_ret
    exact ⟨rfl, rfl⟩
  have h2' : f4.toList.isEmpty = true := by revert h2; cases f4.toList <;> simp
  cases h3 : ((n6 : Int) == 0)
  · go_enter Tryd.func141, Tryd.ntmps141
    (try simp only [List.append_eq, List.cons_append, List.nil_append])
    go_wp2
    go_ret
    exact ⟨rfl, rfl⟩
  cases h4 : ((n7 : Int) == 1)
  case true =>
    go_enter Tryd.func141, Tryd.ntmps141
    (try simp only [List.append_eq, List.cons_append, List.nil_append])
    go_wp2
    go_ret
    exact ⟨rfl, rfl⟩
  cases h5 : ((n7 : Int) == 0)
  · go_enter Tryd.func141, Tryd.ntmps141
    (try simp only [List.append_eq, List.cons_append, List.nil_append])
    go_wp2
    go_ret
    exact ⟨rfl, rfl⟩
  cases h6 : ((n9 : Int) == 0)
  · go_enter Tryd.func141, Tryd.ntmps141
    (try simp only [List.append_eq, List.cons_append, List.nil_append])
    go_wp2
    go_ret
    exact ⟨rfl, rfl⟩
  go_enter Tryd.func141, Tryd.ntmps141
  (try simp only [List.append_eq, List.cons_append, List.nil_append])
  go_wp2
  go_ret
  exact ⟨rfl, rfl⟩
end Go.Proofs.YtgkhpecllhiidaaDoor.A
