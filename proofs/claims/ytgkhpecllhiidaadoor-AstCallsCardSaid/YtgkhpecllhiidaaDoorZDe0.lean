/- What the reference of chapter 6 asks of a statement, against what the program asks: plain. -/
import Derived.Test.YtgkhpecllhiidaaDoorZAn
set_option linter.unusedVariables false
set_option linter.unusedSimpArgs false
namespace Go.Proofs.YtgkhpecllhiidaaDoor.A
open Go.RowKit Go.Shelf Go.Proofs.YtgkhpecllhiidaaDoor.As Go.Proofs.YtgkhpecllhiidaaDoorW.PrintWords Go.Proofs.YtgkhpecllhiidaaDoorW.PrintLast Go.Proofs.YtgkhpecllhiidaaDoorW.PrintMore
inductive K8 (s : SS) : Bool → Bool → Bool → Bool → Bool → Bool → Bool → Bool → Bool → Prop where
  | k1 (h : s.f0 = 1) : K8 s true false true false false true false false (decide (0 < widthI s.f2))
  | k2 (h : s.f0 = 2) : K8 s false false true false true true false false true
  | k3 (h : s.f0 = 3) : K8 s false false false false false true false false ((s.f7.length : Int) == 1 && firstKind s == 4)
  | k4 (h : s.f0 = 4) : K8 s false false false false false true true true true
  | k5 (h : s.f0 = 5) : K8 s false false false false false true true false true
  | k6 (h : s.f0 = 6) : K8 s false false false false false true false false true
  | k7 (h : s.f0 = 7) : K8 s false true false false false false false false (decide (0 ≤ s.f3) && decide (s.f3 ≤ 31))
  | k8 (h : s.f0 = 8) : K8 s false true false false false false false false (decide (0 ≤ s.f3) && decide (s.f3 ≤ 31))
  | k9 (h : s.f0 = 9) : K8 s false true false false false false false false (decide (0 ≤ s.f3) && decide (s.f3 ≤ 15))
  | k10 (h : s.f0 = 10) : K8 s false false false true false false true false (decide (1 ≤ (s.f5.length : Int)))
  | k0 (h : ¬ s.f0 = 1 ∧ ¬ s.f0 = 2 ∧ ¬ s.f0 = 3 ∧ ¬ s.f0 = 4 ∧ ¬ s.f0 = 5 ∧ ¬ s.f0 = 6 ∧ ¬ s.f0 = 7 ∧ ¬ s.f0 = 8 ∧ ¬ s.f0 = 9 ∧ ¬ s.f0 = 10) : K8 s false false false false false false false false false
def bad1 (s : SS) (h0 h1 h2 h3 is : Bool) : Bool := !is || (decide (s.f1 < 0) || ((!h0 && s.f2 != 0) || ((!h1 && s.f3 != 0) || ((h2 != !s.f4.toList.isEmpty) || ((h2 && !nameB s.f4) || (!h3 && decide (0 < (s.f5.length : Int))))))))
def bad2 (s : SS) (h4 h5 h6 h7 : Bool) : Bool := decide (1 < (s.f6.length : Int)) || ((!h4 && decide (0 < (s.f6.length : Int))) || ((h5 != ((s.f7.length : Int) == 1)) || ((!h5 && decide (0 < (s.f7.length : Int))) || ((!h6 && decide (0 < (s.f8.length : Int))) || (!h7 && decide (0 < (s.f9.length : Int)))))))
theorem nameB_ne {s : ByteArray} (h : nameB s = true) : s.toList.isEmpty = false := by
  cases hs : s.toList with
  | nil =>
    have h0 : s.size = 0 := by rw [← Lx.blen, hs]; rfl
    have : nameB s = false := by unfold nameB Lx.kindOf; rw [if_pos h0]; rfl
    rw [this] at h; cases h
  | cons a l => rfl
theorem emp_beq (l : List UInt8) : (l == []) = l.isEmpty := by cases l <;> rfl
theorem gt_ne (n : Nat) : decide (0 < (n : Int)) = !((n : Int) == 0) := by
  rw [Bool.eq_iff_iff]; simp; omega
theorem ge_ne (n : Nat) : decide (1 ≤ (n : Int)) = !((n : Int) == 0) := by
  rw [Bool.eq_iff_iff]; simp; omega
theorem gt_le (n : Nat) : decide (1 < (n : Int)) = !decide ((n : Int) ≤ 1) := by
  rw [Bool.eq_iff_iff]; simp
theorem one_zero (n : Nat) (h : ((n : Int) == 1) = true) : ((n : Int) == 0) = false := by
  have := eq_of_beq h; rw [beq_eq_false_iff_ne]; omega
theorem all_nil {l : List ByteArray} (h : ((l.length : Int) == 0) = true) : l.all nameB = true := by
  have := eq_of_beq h
  have : l = [] := List.eq_nil_of_length_eq_zero (by omega)
  rw [this]; rfl
theorem le_zero (n : Nat) (h : ((n : Int) == 0) = true) : decide ((n : Int) ≤ 1) = true := by
  have := eq_of_beq h; simp; omega
theorem bne_not (a b : Int) : (a != b) = !(a == b) := rfl
theorem if_neg_and (p : Prop) [Decidable p] (b : Bool) : (if p then false else b) = (!decide p && b) := by by_cases h : p <;> simp [h]
theorem k8_1 (s : SS) (h : s.f0 = 1) : (!bad1 s true false true false (decide (0 < widthI s.f2)) && (s.f5.all nameB && !bad2 s false true false false)) = stmtB s := by
  have a5 := @all_nil s.f5
  have n4 := @nameB_ne s.f4
  have o7 := one_zero s.f7.length
  have o6 := le_zero s.f6.length
  unfold stmtB bad1 bad2 c_let c_set c_one c_iff c_whl c_num c_atm
  rw [if_neg_and]
  rw [if_pos h]
  simp only [gt_ne, ge_ne, gt_le, emp_beq, bne_not]
  generalize decide (s.f1 < 0) = z1 at *
  generalize ((s.f5.length : Int) == 0) = x5 at *
  generalize ((s.f6.length : Int) == 0) = x6 at *
  generalize decide ((s.f6.length : Int) ≤ 1) = y6 at *
  generalize ((s.f7.length : Int) == 0) = x7 at *
  generalize ((s.f7.length : Int) == 1) = y7 at *
  generalize ((s.f8.length : Int) == 0) = x8 at *
  generalize ((s.f9.length : Int) == 0) = x9 at *
  generalize (s.f2 == 0) = x2 at *
  generalize (s.f3 == 0) = x3 at *
  generalize nameB s.f4 = x4 at *
  generalize s.f4.toList.isEmpty = y4 at *
  generalize s.f5.all nameB = z5 at *
  generalize decide (0 < widthI s.f2) = zz at *
  clear h
  revert a5 n4 o7 o6
  revert z1 x5 x6 y6 x7 y7 x8 x9 x2 x3 x4 y4 z5 zz
  decide
theorem k8_2 (s : SS) (h : s.f0 = 2) : (!bad1 s false false true false true && (s.f5.all nameB && !bad2 s true true false false)) = stmtB s := by
  have a5 := @all_nil s.f5
  have n4 := @nameB_ne s.f4
  have o7 := one_zero s.f7.length
  have o6 := le_zero s.f6.length
  unfold stmtB bad1 bad2 c_let c_set c_one c_iff c_whl c_num c_atm
  rw [if_neg_and]
  rw [if_neg (show ¬ s.f0 = 1 by omega), if_pos h]
  simp only [gt_ne, ge_ne, gt_le, emp_beq, bne_not]
  generalize decide (s.f1 < 0) = z1 at *
  generalize ((s.f5.length : Int) == 0) = x5 at *
  generalize ((s.f6.length : Int) == 0) = x6 at *
  generalize decide ((s.f6.length : Int) ≤ 1) = y6 at *
  generalize ((s.f7.length : Int) == 0) = x7 at *
  generalize ((s.f7.length : Int) == 1) = y7 at *
  generalize ((s.f8.length : Int) == 0) = x8 at *
  generalize ((s.f9.length : Int) == 0) = x9 at *
  generalize (s.f2 == 0) = x2 at *
  generalize (s.f3 == 0) = x3 at *
  generalize nameB s.f4 = x4 at *
  generalize s.f4.toList.isEmpty = y4 at *
  generalize s.f5.all nameB = z5 at *
  clear h
  revert a5 n4 o7 o6
  revert z1 x5 x6 y6 x7 y7 x8 x9 x2 x3 x4 y4 z5
  decide
theorem k8_3 (s : SS) (h : s.f0 = 3) : (!bad1 s false false false false ((s.f7.length : Int) == 1 && firstKind s == 4) && (s.f5.all nameB && !bad2 s false true false false)) = stmtB s := by
  have a5 := @all_nil s.f5
  have n4 := @nameB_ne s.f4
  have o7 := one_zero s.f7.length
  have o6 := le_zero s.f6.length
  unfold stmtB bad1 bad2 c_let c_set c_one c_iff c_whl c_num c_atm
  rw [if_neg_and]
  rw [if_neg (show ¬ s.f0 = 1 by omega), if_neg (show ¬ s.f0 = 2 by omega), if_pos h]
  simp only [gt_ne, ge_ne, gt_le, emp_beq, bne_not]
  generalize decide (s.f1 < 0) = z1 at *
  generalize ((s.f5.length : Int) == 0) = x5 at *
  generalize ((s.f6.length : Int) == 0) = x6 at *
  generalize decide ((s.f6.length : Int) ≤ 1) = y6 at *
  generalize ((s.f7.length : Int) == 0) = x7 at *
  generalize ((s.f7.length : Int) == 1) = y7 at *
  generalize ((s.f8.length : Int) == 0) = x8 at *
  generalize ((s.f9.length : Int) == 0) = x9 at *
  generalize (s.f2 == 0) = x2 at *
  generalize (s.f3 == 0) = x3 at *
  generalize nameB s.f4 = x4 at *
  generalize s.f4.toList.isEmpty = y4 at *
  generalize s.f5.all nameB = z5 at *
  generalize (firstKind s == 4) = zz at *
  clear h
  revert a5 n4 o7 o6
  revert z1 x5 x6 y6 x7 y7 x8 x9 x2 x3 x4 y4 z5 zz
  decide
theorem k8_4 (s : SS) (h : s.f0 = 4) : (!bad1 s false false false false true && (s.f5.all nameB && !bad2 s false true true true)) = stmtB s := by
  have a5 := @all_nil s.f5
  have n4 := @nameB_ne s.f4
  have o7 := one_zero s.f7.length
  have o6 := le_zero s.f6.length
  unfold stmtB bad1 bad2 c_let c_set c_one c_iff c_whl c_num c_atm
  rw [if_neg_and]
  rw [if_neg (show ¬ s.f0 = 1 by omega), if_neg (show ¬ s.f0 = 2 by omega), if_neg (show ¬ s.f0 = 3 by omega), if_pos h]
  simp only [gt_ne, ge_ne, gt_le, emp_beq, bne_not]
  generalize decide (s.f1 < 0) = z1 at *
  generalize ((s.f5.length : Int) == 0) = x5 at *
  generalize ((s.f6.length : Int) == 0) = x6 at *
  generalize decide ((s.f6.length : Int) ≤ 1) = y6 at *
  generalize ((s.f7.length : Int) == 0) = x7 at *
  generalize ((s.f7.length : Int) == 1) = y7 at *
  generalize ((s.f8.length : Int) == 0) = x8 at *
  generalize ((s.f9.length : Int) == 0) = x9 at *
  generalize (s.f2 == 0) = x2 at *
  generalize (s.f3 == 0) = x3 at *
  generalize nameB s.f4 = x4 at *
  generalize s.f4.toList.isEmpty = y4 at *
  generalize s.f5.all nameB = z5 at *
  clear h
  revert a5 n4 o7 o6
  revert z1 x5 x6 y6 x7 y7 x8 x9 x2 x3 x4 y4 z5
  decide
theorem k8_5 (s : SS) (h : s.f0 = 5) : (!bad1 s false false false false true && (s.f5.all nameB && !bad2 s false true true false)) = stmtB s := by
  have a5 := @all_nil s.f5
  have n4 := @nameB_ne s.f4
  have o7 := one_zero s.f7.length
  have o6 := le_zero s.f6.length
  unfold stmtB bad1 bad2 c_let c_set c_one c_iff c_whl c_num c_atm
  rw [if_neg_and]
  rw [if_neg (show ¬ s.f0 = 1 by omega), if_neg (show ¬ s.f0 = 2 by omega), if_neg (show ¬ s.f0 = 3 by omega), if_neg (show ¬ s.f0 = 4 by omega), if_pos h]
  simp only [gt_ne, ge_ne, gt_le, emp_beq, bne_not]
  generalize decide (s.f1 < 0) = z1 at *
  generalize ((s.f5.length : Int) == 0) = x5 at *
  generalize ((s.f6.length : Int) == 0) = x6 at *
  generalize decide ((s.f6.length : Int) ≤ 1) = y6 at *
  generalize ((s.f7.length : Int) == 0) = x7 at *
  generalize ((s.f7.length : Int) == 1) = y7 at *
  generalize ((s.f8.length : Int) == 0) = x8 at *
  generalize ((s.f9.length : Int) == 0) = x9 at *
  generalize (s.f2 == 0) = x2 at *
  generalize (s.f3 == 0) = x3 at *
  generalize nameB s.f4 = x4 at *
  generalize s.f4.toList.isEmpty = y4 at *
  generalize s.f5.all nameB = z5 at *
  clear h
  revert a5 n4 o7 o6
  revert z1 x5 x6 y6 x7 y7 x8 x9 x2 x3 x4 y4 z5
  decide
theorem k8_6 (s : SS) (h : s.f0 = 6) : (!bad1 s false false false false true && (s.f5.all nameB && !bad2 s false true false false)) = stmtB s := by
  have a5 := @all_nil s.f5
  have n4 := @nameB_ne s.f4
  have o7 := one_zero s.f7.length
  have o6 := le_zero s.f6.length
  unfold stmtB bad1 bad2 c_let c_set c_one c_iff c_whl c_num c_atm
  rw [if_neg_and]
  rw [if_neg (show ¬ s.f0 = 1 by omega), if_neg (show ¬ s.f0 = 2 by omega), if_neg (show ¬ s.f0 = 3 by omega), if_neg (show ¬ s.f0 = 4 by omega), if_neg (show ¬ s.f0 = 5 by omega), if_pos h]
  simp only [gt_ne, ge_ne, gt_le, emp_beq, bne_not]
  generalize decide (s.f1 < 0) = z1 at *
  generalize ((s.f5.length : Int) == 0) = x5 at *
  generalize ((s.f6.length : Int) == 0) = x6 at *
  generalize decide ((s.f6.length : Int) ≤ 1) = y6 at *
  generalize ((s.f7.length : Int) == 0) = x7 at *
  generalize ((s.f7.length : Int) == 1) = y7 at *
  generalize ((s.f8.length : Int) == 0) = x8 at *
  generalize ((s.f9.length : Int) == 0) = x9 at *
  generalize (s.f2 == 0) = x2 at *
  generalize (s.f3 == 0) = x3 at *
  generalize nameB s.f4 = x4 at *
  generalize s.f4.toList.isEmpty = y4 at *
  generalize s.f5.all nameB = z5 at *
  clear h
  revert a5 n4 o7 o6
  revert z1 x5 x6 y6 x7 y7 x8 x9 x2 x3 x4 y4 z5
  decide
theorem k8_7 (s : SS) (h : s.f0 = 7) : (!bad1 s false true false false (decide (0 ≤ s.f3) && decide (s.f3 ≤ 31)) && (s.f5.all nameB && !bad2 s false false false false)) = stmtB s := by
  have a5 := @all_nil s.f5
  have n4 := @nameB_ne s.f4
  have o7 := one_zero s.f7.length
  have o6 := le_zero s.f6.length
  unfold stmtB bad1 bad2 c_let c_set c_one c_iff c_whl c_num c_atm
  rw [if_neg_and]
  rw [if_neg (show ¬ s.f0 = 1 by omega), if_neg (show ¬ s.f0 = 2 by omega), if_neg (show ¬ s.f0 = 3 by omega), if_neg (show ¬ s.f0 = 4 by omega), if_neg (show ¬ s.f0 = 5 by omega), if_neg (show ¬ s.f0 = 6 by omega), if_pos h]
  simp only [gt_ne, ge_ne, gt_le, emp_beq, bne_not]
  generalize decide (s.f1 < 0) = z1 at *
  generalize ((s.f5.length : Int) == 0) = x5 at *
  generalize ((s.f6.length : Int) == 0) = x6 at *
  generalize decide ((s.f6.length : Int) ≤ 1) = y6 at *
  generalize ((s.f7.length : Int) == 0) = x7 at *
  generalize ((s.f7.length : Int) == 1) = y7 at *
  generalize ((s.f8.length : Int) == 0) = x8 at *
  generalize ((s.f9.length : Int) == 0) = x9 at *
  generalize (s.f2 == 0) = x2 at *
  generalize (s.f3 == 0) = x3 at *
  generalize nameB s.f4 = x4 at *
  generalize s.f4.toList.isEmpty = y4 at *
  generalize s.f5.all nameB = z5 at *
  generalize (decide (0 ≤ s.f3) && decide (s.f3 ≤ 31)) = zz at *
  clear h
  revert a5 n4 o7 o6
  revert z1 x5 x6 y6 x7 y7 x8 x9 x2 x3 x4 y4 z5 zz
  decide
theorem k8_8 (s : SS) (h : s.f0 = 8) : (!bad1 s false true false false (decide (0 ≤ s.f3) && decide (s.f3 ≤ 31)) && (s.f5.all nameB && !bad2 s false false false false)) = stmtB s := by
  have a5 := @all_nil s.f5
  have n4 := @nameB_ne s.f4
  have o7 := one_zero s.f7.length
  have o6 := le_zero s.f6.length
  unfold stmtB bad1 bad2 c_let c_set c_one c_iff c_whl c_num c_atm
  rw [if_neg_and]
  rw [if_neg (show ¬ s.f0 = 1 by omega), if_neg (show ¬ s.f0 = 2 by omega), if_neg (show ¬ s.f0 = 3 by omega), if_neg (show ¬ s.f0 = 4 by omega), if_neg (show ¬ s.f0 = 5 by omega), if_neg (show ¬ s.f0 = 6 by omega), if_neg (show ¬ s.f0 = 7 by omega), if_pos h]
  simp only [gt_ne, ge_ne, gt_le, emp_beq, bne_not]
  generalize decide (s.f1 < 0) = z1 at *
  generalize ((s.f5.length : Int) == 0) = x5 at *
  generalize ((s.f6.length : Int) == 0) = x6 at *
  generalize decide ((s.f6.length : Int) ≤ 1) = y6 at *
  generalize ((s.f7.length : Int) == 0) = x7 at *
  generalize ((s.f7.length : Int) == 1) = y7 at *
  generalize ((s.f8.length : Int) == 0) = x8 at *
  generalize ((s.f9.length : Int) == 0) = x9 at *
  generalize (s.f2 == 0) = x2 at *
  generalize (s.f3 == 0) = x3 at *
  generalize nameB s.f4 = x4 at *
  generalize s.f4.toList.isEmpty = y4 at *
  generalize s.f5.all nameB = z5 at *
  generalize (decide (0 ≤ s.f3) && decide (s.f3 ≤ 31)) = zz at *
  clear h
  revert a5 n4 o7 o6
  revert z1 x5 x6 y6 x7 y7 x8 x9 x2 x3 x4 y4 z5 zz
  decide
theorem k8_9 (s : SS) (h : s.f0 = 9) : (!bad1 s false true false false (decide (0 ≤ s.f3) && decide (s.f3 ≤ 15)) && (s.f5.all nameB && !bad2 s false false false false)) = stmtB s := by
  have a5 := @all_nil s.f5
  have n4 := @nameB_ne s.f4
  have o7 := one_zero s.f7.length
  have o6 := le_zero s.f6.length
  unfold stmtB bad1 bad2 c_let c_set c_one c_iff c_whl c_num c_atm
  rw [if_neg_and]
  rw [if_neg (show ¬ s.f0 = 1 by omega), if_neg (show ¬ s.f0 = 2 by omega), if_neg (show ¬ s.f0 = 3 by omega), if_neg (show ¬ s.f0 = 4 by omega), if_neg (show ¬ s.f0 = 5 by omega), if_neg (show ¬ s.f0 = 6 by omega), if_neg (show ¬ s.f0 = 7 by omega), if_neg (show ¬ s.f0 = 8 by omega), if_pos h]
  simp only [gt_ne, ge_ne, gt_le, emp_beq, bne_not]
  generalize decide (s.f1 < 0) = z1 at *
  generalize ((s.f5.length : Int) == 0) = x5 at *
  generalize ((s.f6.length : Int) == 0) = x6 at *
  generalize decide ((s.f6.length : Int) ≤ 1) = y6 at *
  generalize ((s.f7.length : Int) == 0) = x7 at *
  generalize ((s.f7.length : Int) == 1) = y7 at *
  generalize ((s.f8.length : Int) == 0) = x8 at *
  generalize ((s.f9.length : Int) == 0) = x9 at *
  generalize (s.f2 == 0) = x2 at *
  generalize (s.f3 == 0) = x3 at *
  generalize nameB s.f4 = x4 at *
  generalize s.f4.toList.isEmpty = y4 at *
  generalize s.f5.all nameB = z5 at *
  generalize (decide (0 ≤ s.f3) && decide (s.f3 ≤ 15)) = zz at *
  clear h
  revert a5 n4 o7 o6
  revert z1 x5 x6 y6 x7 y7 x8 x9 x2 x3 x4 y4 z5 zz
  decide
theorem k8_10 (s : SS) (h : s.f0 = 10) : (!bad1 s false false false true (decide (1 ≤ (s.f5.length : Int))) && (s.f5.all nameB && !bad2 s false false true false)) = stmtB s := by
  have a5 := @all_nil s.f5
  have n4 := @nameB_ne s.f4
  have o7 := one_zero s.f7.length
  have o6 := le_zero s.f6.length
  unfold stmtB bad1 bad2 c_let c_set c_one c_iff c_whl c_num c_atm
  rw [if_neg_and]
  rw [if_neg (show ¬ s.f0 = 1 by omega), if_neg (show ¬ s.f0 = 2 by omega), if_neg (show ¬ s.f0 = 3 by omega), if_neg (show ¬ s.f0 = 4 by omega), if_neg (show ¬ s.f0 = 5 by omega), if_neg (show ¬ s.f0 = 6 by omega), if_neg (show ¬ s.f0 = 7 by omega), if_neg (show ¬ s.f0 = 8 by omega), if_neg (show ¬ s.f0 = 9 by omega), if_pos h]
  simp only [gt_ne, ge_ne, gt_le, emp_beq, bne_not]
  generalize decide (s.f1 < 0) = z1 at *
  generalize ((s.f5.length : Int) == 0) = x5 at *
  generalize ((s.f6.length : Int) == 0) = x6 at *
  generalize decide ((s.f6.length : Int) ≤ 1) = y6 at *
  generalize ((s.f7.length : Int) == 0) = x7 at *
  generalize ((s.f7.length : Int) == 1) = y7 at *
  generalize ((s.f8.length : Int) == 0) = x8 at *
  generalize ((s.f9.length : Int) == 0) = x9 at *
  generalize (s.f2 == 0) = x2 at *
  generalize (s.f3 == 0) = x3 at *
  generalize nameB s.f4 = x4 at *
  generalize s.f4.toList.isEmpty = y4 at *
  generalize s.f5.all nameB = z5 at *
  clear h
  revert a5 n4 o7 o6
  revert z1 x5 x6 y6 x7 y7 x8 x9 x2 x3 x4 y4 z5
  decide
theorem k8_0 (s : SS) (h : ¬ s.f0 = 1 ∧ ¬ s.f0 = 2 ∧ ¬ s.f0 = 3 ∧ ¬ s.f0 = 4 ∧ ¬ s.f0 = 5 ∧ ¬ s.f0 = 6 ∧ ¬ s.f0 = 7 ∧ ¬ s.f0 = 8 ∧ ¬ s.f0 = 9 ∧ ¬ s.f0 = 10) : (!bad1 s false false false false false && (s.f5.all nameB && !bad2 s false false false false)) = stmtB s := by
  have a5 := @all_nil s.f5
  have n4 := @nameB_ne s.f4
  have o7 := one_zero s.f7.length
  have o6 := le_zero s.f6.length
  unfold stmtB bad1 bad2 c_let c_set c_one c_iff c_whl c_num c_atm
  rw [if_neg_and]
  rw [if_neg (show ¬ s.f0 = 1 by omega), if_neg (show ¬ s.f0 = 2 by omega), if_neg (show ¬ s.f0 = 3 by omega), if_neg (show ¬ s.f0 = 4 by omega), if_neg (show ¬ s.f0 = 5 by omega), if_neg (show ¬ s.f0 = 6 by omega), if_neg (show ¬ s.f0 = 7 by omega), if_neg (show ¬ s.f0 = 8 by omega), if_neg (show ¬ s.f0 = 9 by omega), if_neg (show ¬ s.f0 = 10 by omega)]
  simp only [gt_ne, ge_ne, gt_le, emp_beq, bne_not]
  generalize decide (s.f1 < 0) = z1 at *
  generalize ((s.f5.length : Int) == 0) = x5 at *
  generalize ((s.f6.length : Int) == 0) = x6 at *
  generalize decide ((s.f6.length : Int) ≤ 1) = y6 at *
  generalize ((s.f7.length : Int) == 0) = x7 at *
  generalize ((s.f7.length : Int) == 1) = y7 at *
  generalize ((s.f8.length : Int) == 0) = x8 at *
  generalize ((s.f9.length : Int) == 0) = x9 at *
  generalize (s.f2 == 0) = x2 at *
  generalize (s.f3 == 0) = x3 at *
  generalize nameB s.f4 = x4 at *
  generalize s.f4.toList.isEmpty = y4 at *
  generalize s.f5.all nameB = z5 at *
  clear h
  revert a5 n4 o7 o6
  revert z1 x5 x6 y6 x7 y7 x8 x9 x2 x3 x4 y4 z5
  decide
theorem k8_stmt (s : SS) {h0 h1 h2 h3 h4 h5 h6 h7 is : Bool} (h : K8 s h0 h1 h2 h3 h4 h5 h6 h7 is) : (!bad1 s h0 h1 h2 h3 is && (s.f5.all nameB && !bad2 s h4 h5 h6 h7)) = stmtB s := by
  cases h with
  | k0 h => exact k8_0 s h
  | k1 h => exact k8_1 s h
  | k2 h => exact k8_2 s h
  | k3 h => exact k8_3 s h
  | k4 h => exact k8_4 s h
  | k5 h => exact k8_5 s h
  | k6 h => exact k8_6 s h
  | k7 h => exact k8_7 s h
  | k8 h => exact k8_8 s h
  | k9 h => exact k8_9 s h
  | k10 h => exact k8_10 s h
end Go.Proofs.YtgkhpecllhiidaaDoor.A
