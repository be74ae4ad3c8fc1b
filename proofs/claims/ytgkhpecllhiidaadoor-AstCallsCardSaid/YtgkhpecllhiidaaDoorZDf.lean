/- The reference of chapter 6: expressions, statements and functions are judged. -/
import Derived.Test.YtgkhpecllhiidaaDoorZBb
import Derived.Test.YtgkhpecllhiidaaDoorZDe2
set_option linter.unusedVariables false
set_option linter.unusedSimpArgs false
namespace Go.Proofs.YtgkhpecllhiidaaDoor.A
open Go.RowKit Go.Shelf Go.Proofs.YtgkhpecllhiidaaDoor.As Go.Proofs.YtgkhpecllhiidaaDoorW.PrintWords Go.Proofs.YtgkhpecllhiidaaDoorW.PrintLast Go.Proofs.YtgkhpecllhiidaaDoorW.PrintMore
theorem refStmt : ∀ (D : Nat) (x : SS), deepS x ≤ D → AllN szN (.st x) → StAtR x
  | 0, ⟨_, _, _, _, _, _, _, _, _, _⟩, h, _ => by rw [deepS] at h; omega
  | D + 1, ⟨a0, a1, a2, a3, a4, l5, l6, l7, l8, l9⟩, h, hP => by
    rw [deepS] at h
    intro A5 A6 A7 A8 A9 c5 c6 c7 c8 c9 W hR
    have k6 : ∀ x ∈ l6, AllN szN (.ex x) := fun x hx => hP.kid (y := .ex x) (by unfold Nd.kids; simp only [List.mem_append, List.mem_map]; exact .inl (.inl (.inl ⟨x, hx, rfl⟩)))
    have k7 : ∀ x ∈ l7, AllN szN (.ex x) := fun x hx => hP.kid (y := .ex x) (by unfold Nd.kids; simp only [List.mem_append, List.mem_map]; exact .inl (.inl (.inr ⟨x, hx, rfl⟩)))
    have k8 : ∀ x ∈ l8, AllN szN (.st x) := fun x hx => hP.kid (y := .st x) (by unfold Nd.kids; simp only [List.mem_append, List.mem_map]; exact .inl (.inr ⟨x, hx, rfl⟩))
    have k9 : ∀ x ∈ l9, AllN szN (.st x) := fun x hx => hP.kid (y := .st x) (by unfold Nd.kids; simp only [List.mem_append, List.mem_map]; exact .inr ⟨x, hx, rfl⟩)
    exact refStmt_step ⟨a0, a1, a2, a3, a4, l5, l6, l7, l8, l9⟩ A5 A6 A7 A8 A9 c5 c6 c7 c8 c9 W hR hP.own.1 hP.own.2 (fun x hx => refExpr (deepE x) x (Nat.le_refl _) (k6 x hx)) (fun x hx => refExpr (deepE x) x (Nat.le_refl _) (k7 x hx))
      (fun x hx => refStmt D x (by have := deep_mem_S (l := l8) hx; omega) (k8 x hx)) (fun x hx => refStmt D x (by have := deep_mem_S (l := l9) hx; omega) (k9 x hx))
def kindOk (d : SD) : Bool := if d.f0 = 1 then nameB d.f1 && (decide ((d.f2.length : Int) ≤ 8) && ((d.f3 == 0) && (d.f4 == 0))) else if d.f0 = 2 then d.f1.toList.isEmpty && (((d.f2.length : Int) == 0) && ((d.f3 == 0) && (d.f4 == 0))) else if d.f0 = 3 then d.f1.toList.isEmpty && (((d.f2.length : Int) == 0) && (decide (d.f3 ≥ 0) && (decide (d.f3 ≤ 31) && (decide (d.f4 ≥ 1) && decide (d.f4 ≤ 15))))) else false
theorem gt_not (n : Nat) : decide ((n : Int) > 8) = !decide ((n : Int) ≤ 8) := by rw [Bool.eq_iff_iff]; simp
theorem any_nil {l : List SQ} (h : ((l.length : Int) == 0) = true) : l.any badQ = false := by
  have := eq_of_beq h
  have : l = [] := List.eq_nil_of_length_eq_zero (by omega)
  rw [this]; rfl
theorem declB_ref (d : SD) : declB d = (!decide (d.f6 < 0) && (!d.f2.any badQ && kindOk d)) := by
  have an := @any_nil d.f2
  unfold declB declV kindOk
  rw [gt_not]
  generalize d.f2.any badQ = zb at *
  generalize ((d.f2.length : Int) == 0) = zn at *
  generalize decide ((d.f2.length : Int) ≤ 8) = z8
  generalize nameB d.f1 = z1
  generalize d.f1.toList.isEmpty = z2
  generalize decide (d.f6 < 0) = z6
  generalize decide (d.f3 ≥ 0) = y1
  generalize decide (d.f3 ≤ 31) = y2
  generalize decide (d.f4 ≥ 1) = y3
  generalize decide (d.f4 ≤ 15) = y4
  by_cases h1 : d.f0 = 1
  · have b1 : (d.f0 == 1) = true := beq_iff_eq.2 h1
    rw [if_pos h1]
    simp only [b1, if_true]
    generalize (d.f3 == 0) = x3
    generalize (d.f4 == 0) = x4
    clear b1 h1 an
    revert z6 zb z1 z8 x3 x4
    clear zn z2 y1 y2 y3 y4
    decide
  have b1 : (d.f0 == 1) = false := beq_eq_false_iff_ne.2 h1
  rw [if_neg h1]
  by_cases h2 : d.f0 = 2
  · have b2 : (d.f0 == 2) = true := beq_iff_eq.2 h2
    rw [if_pos h2]
    simp only [b1, b2, if_true, Bool.false_eq_true, if_false]
    generalize (d.f3 == 0) = x3
    generalize (d.f4 == 0) = x4
    clear b1 b2 h1 h2
    revert an
    revert z6 zb zn z2 x3 x4
    clear z1 z8 y1 y2 y3 y4
    decide
  have b2 : (d.f0 == 2) = false := beq_eq_false_iff_ne.2 h2
  rw [if_neg h2]
  by_cases h3 : d.f0 = 3
  · have b3 : (d.f0 == 3) = true := beq_iff_eq.2 h3
    rw [if_pos h3]
    simp only [b1, b2, b3, if_true, Bool.false_eq_true, if_false]
    clear b1 b2 b3 h1 h2 h3
    revert an
    revert z6 zb zn z2 y1 y2 y3 y4
    clear z1 z8
    decide
  have b3 : (d.f0 == 3) = false := beq_eq_false_iff_ne.2 h3
  rw [if_neg h3]
  simp only [b1, b2, b3, Bool.false_eq_true, if_false]
  cases z6 <;> cases zb <;> rfl
theorem ret_eq {a b : Bool} (h : a = b) : Ending.returned (.bool a) = .returned (.bool b) := by rw [h]
theorem any_yes {l : List SQ} {x : SQ} (hm : x ∈ l) (hx : badQ x = true) : l.any badQ = true := List.any_eq_true.2 ⟨x, hm, hx⟩
theorem width_zero {t : Int} (h : ¬ 0 < widthI t) : (widthI t == 0) = true := by
  rw [beq_iff_eq]
  have : 0 ≤ widthI t := by unfold widthI; (repeat' split) <;> omega
  omega
theorem width_pos {t : Int} (h : 0 < widthI t) : (widthI t == 0) = false := by rw [beq_eq_false_iff_ne]; omega
set_option maxRecDepth 100000 in
set_option maxHeartbeats 8000000 in
theorem refDecl (d : SD) (A2 A5 : Option Addr) (c2 c5 : Nat) (w : World) (hR : RowsD w d A2 A5 c2 c5) (hs1 : d.f1.size ≤ 140737488351232) (hq : ∀ q ∈ d.f2, q.f0.size ≤ 140737488351232) (i5 : ∀ x ∈ d.f5, StAtR x) :
    Calls Tryd.prog 84 #[.agg #[.int .i64 d.f0, .string d.f1, .slice A2 d.f2.length c2, .int .i64 d.f3, .int .i64 d.f4, .slice A5 d.f5.length c5, .int .i64 d.f6]] w fun r w' => r = .returned (.bool (declB d && rightSs exprB stmtB d.f5)) ∧ Below w.heap.size w w' := by
  have n2 : d.f2.length ≤ 9223372036854775807 := hR.1.2.1
  obtain ⟨X, hX⟩ : ∃ X, (declB d && rightSs exprB stmtB d.f5) = X := ⟨_, rfl⟩
  rw [hX]
  have HX := Lx.Hd.mk hX
  clear hX
  have HR0 := Lx.Hd.mk hR
  have HQ := Lx.Hd.mk hq
  have I5 := Lx.Hd.mk i5
  clear hR hq i5
  go_enter Tryd.func84, Tryd.ntmps84
  go_upto_region 1 with (fail)
  refine name_world fun W2 hW2 => ?_
  have HB0 : Lx.Hd (Below w.heap.size w W2) := Lx.Hd.mk (by rw [hW2]; exact below_alloc (Below.refl _ _) _)
  have hb1 : W2.heap[w.heap.size]? = some (.cells #[.int .i64 d.f0, .string d.f1, .slice A2 d.f2.length c2, .int .i64 d.f3, .int .i64 d.f4, .slice A5 d.f5.length c5, .int .i64 d.f6] 49 (0, 0)) := by rw [hW2]; exact World.alloc_heap_new w _
  have BC := Lx.Hd.mk (bkD_of hb1)
  have HR : Lx.Hd (RowsD W2 d A2 A5 c2 c5) := Lx.Hd.mk (RowsD.below HR0.out HB0.out)
  have HB : Lx.Hd (Below W2.heap.size W2 W2) := Lx.Hd.mk (Below.refl _ _)
  clear hW2 hb1 HR0
  generalize w.heap.size = bx at BC ⊢
  obtain ⟨p0, p1, p2, p3, p4, p5, p6⟩ := BC.out _ HB.out
  by_cases z6 : d.f6 < 0
  · go_wp2
    go_ret
    exact ⟨ret_eq (show false = X by rw [← HX.out, declB_ref, decide_eq_true z6]; rfl), below_step HB0.out HB.out⟩
  cases h5 : rightSs exprB stmtB d.f5
  · go_wp2_with (first | (go_at_call 113; (with_reducible refine (refAll d.f5 A5 c5 _ ?s1 I5.out).mono ?_); (case s1 => exact Kd.C_below HR.out.2.1 HB.out); rw [h5]; rintro r W5 ⟨rfl, hb⟩; replace HB := bst HB hb; clear hb; clear p0 p1 p2 p3 p4 p5 p6; obtain ⟨p0, p1, p2, p3, p4, p5, p6⟩ := BC.out _ HB.out) | fail)
    go_ret
    exact ⟨ret_eq (show false = X by rw [← HX.out, h5, Bool.and_false]), below_step HB0.out HB.out⟩
  have H5 := Lx.Hd.mk h5
  go_upto_region 3 with (first | (go_at_call 113; (with_reducible refine (refAll d.f5 A5 c5 _ ?s1 I5.out).mono ?_); (case s1 => exact Kd.C_below HR.out.2.1 HB.out); rw [h5]; rintro r W5 ⟨rfl, hb⟩; replace HB := bst HB hb; clear hb; clear p0 p1 p2 p3 p4 p5 p6; obtain ⟨p0, p1, p2, p3, p4, p5, p6⟩ := BC.out _ HB.out) | fail)
  go_upto_block 0 with (fail)
  go_cut [2, 3] (fun v2 v3 wc => Lx.Hd (d.f2.any badQ = false) ∧ Lx.Hd (Below W2.heap.size W2 wc))
  case first =>
    rename_i Kq hKq Jq Kq1 hJq hKq1
    clear hKq
    go_wp2
    go_loopw [3] (fun t3 wr => ∃ i : Nat, i ≤ d.f2.length ∧ t3 = .int .i64 i ∧ Lx.Hd ((d.f2.take i).any badQ = false) ∧ Lx.Hd (Below W2.heap.size W2 wr)) (fun t3 _ => d.f2.length - (intOf t3).toNat)
    case atStart => exact ⟨0, Nat.zero_le _, rfl, Lx.Hd.mk rfl, HB⟩
    case round =>
      clear p0 p1 p2 p3 p4 p5 p6 HB
      obtain ⟨i, hi, rfl, HAL, HB⟩ := hrel
      obtain ⟨p0, p1, p2, p3, p4, p5, p6⟩ := BC.out _ HB.out
      by_cases hlt : i < d.f2.length
      · obtain ⟨ad, rfl, e0, e1⟩ := at_T110 (show kQ.C W2 A2 d.f2.length d.f2 from HR.out.1) i (by omega) (by omega)
        have ex : rd_T110 d.f2 i = d.f2[i] := by unfold rd_T110; rw [Int.toNat_natCast, List.getD_eq_getElem?_getD, List.getElem?_eq_getElem hlt]; rfl
        rw [ex] at e0 e1
        rw [Int.toNat_natCast] at e0 e1
        have HM := Lx.Hd.mk (List.getElem_mem hlt)
        have HT : Lx.Hd (d.f2.take (i + 1) = d.f2.take i ++ [d.f2[i]]) := Lx.Hd.mk (by rw [List.take_succ_eq_append_getElem hlt])
        generalize d.f2[i] = x at *
        clear ex
        have r0 := pw_cell_below HB.out e0
        have r1 := pw_cell_below HB.out e1
        have E01 := Lx.Hd.mk (And.intro e0 e1)
        clear e0 e1
        cases hn : nameB x.f0
        · go_wp2_with (first | (go_at_call 82; (with_reducible refine (refWord x.f0 _ (HQ.out x HM.out)).mono ?_); rw [hn]; rintro r W5 ⟨rfl, hb⟩; replace HB := bst HB hb; clear hb; clear p0 p1 p2 p3 p4 p5 p6; obtain ⟨p0, p1, p2, p3, p4, p5, p6⟩ := BC.out _ HB.out; clear r0 r1; have r0 := pw_cell_below HB.out E01.out.1; have r1 := pw_cell_below HB.out E01.out.2) | fail)
          go_ret
          exact ⟨ret_eq (show false = X by rw [← HX.out, declB_ref, any_yes HM.out (show badQ x = true by unfold badQ; rw [hn]; rfl)]; simp), below_step HB0.out HB.out⟩
        by_cases hw : 0 < widthI x.f1
        rotate_left
        · go_wp2_with (first | (go_at_call 82; (with_reducible refine (refWord x.f0 _ (HQ.out x HM.out)).mono ?_); rw [hn]; rintro r W5 ⟨rfl, hb⟩; replace HB := bst HB hb; clear hb; clear p0 p1 p2 p3 p4 p5 p6; obtain ⟨p0, p1, p2, p3, p4, p5, p6⟩ := BC.out _ HB.out; clear r0 r1; have r0 := pw_cell_below HB.out E01.out.1; have r1 := pw_cell_below HB.out E01.out.2) | (go_at_call 83; (with_reducible refine (refTy x.f1 _).mono ?_); (first | rw [decide_eq_true hw] | rw [decide_eq_false (show ¬ 0 < widthI x.f1 by omega)]); rintro r W5 ⟨rfl, hb⟩; replace HB := bst HB hb; clear hb; clear p0 p1 p2 p3 p4 p5 p6; obtain ⟨p0, p1, p2, p3, p4, p5, p6⟩ := BC.out _ HB.out) | fail)
          go_ret
          exact ⟨ret_eq (show false = X by rw [← HX.out, declB_ref, any_yes HM.out (show badQ x = true by unfold badQ; rw [width_zero (show ¬ 0 < widthI x.f1 by omega)]; simp)]; simp), below_step HB0.out HB.out⟩
        go_wp2_with (first | (go_at_call 82; (with_reducible refine (refWord x.f0 _ (HQ.out x HM.out)).mono ?_); rw [hn]; rintro r W5 ⟨rfl, hb⟩; replace HB := bst HB hb; clear hb; clear p0 p1 p2 p3 p4 p5 p6; obtain ⟨p0, p1, p2, p3, p4, p5, p6⟩ := BC.out _ HB.out; clear r0 r1; have r0 := pw_cell_below HB.out E01.out.1; have r1 := pw_cell_below HB.out E01.out.2) | (go_at_call 83; (with_reducible refine (refTy x.f1 _).mono ?_); (first | rw [decide_eq_true hw] | rw [decide_eq_false (show ¬ 0 < widthI x.f1 by omega)]); rintro r W5 ⟨rfl, hb⟩; replace HB := bst HB hb; clear hb; clear p0 p1 p2 p3 p4 p5 p6; obtain ⟨p0, p1, p2, p3, p4, p5, p6⟩ := BC.out _ HB.out) | fail)
        exact ⟨⟨i + 1, hlt, by go_num, Lx.Hd.mk (by rw [HT.out, List.any_append, HAL.out]; simp only [List.any_cons, List.any_nil, Bool.false_or, Bool.or_false]; unfold badQ; rw [hn, width_pos (show 0 < widthI x.f1 by omega)]; rfl), HB⟩, by simp [intOf]; omega⟩
      have HN : Lx.Hd (d.f2.any badQ = false) := Lx.Hd.mk (by have := HAL.out; rwa [show i = d.f2.length by omega, List.take_length] at this)
      clear HAL
      go_wp2
      go_meet
      case rel => exact ⟨HN, HB⟩
  case rest =>
    obtain ⟨HN, HBc⟩ := hcut
    clear HB p0 p1 p2 p3 p4 p5 p6
    have HB := HBc
    clear HBc
    obtain ⟨p0, p1, p2, p3, p4, p5, p6⟩ := BC.out _ HB.out
    have HD : Lx.Hd (X = kindOk d) := Lx.Hd.mk (by rw [← HX.out, H5.out, declB_ref, HN.out, decide_eq_false (show ¬ d.f6 < 0 by omega)]; simp)
    clear HN
    by_cases h1 : d.f0 = 1
    · skip
      cases hn : nameB d.f1
      · go_wp2_with (first | (go_at_call 82; (with_reducible refine (refWord d.f1 _ hs1).mono ?_); rw [hn]; rintro r W5 ⟨rfl, hb⟩; replace HB := bst HB hb; clear hb; clear p0 p1 p2 p3 p4 p5 p6; obtain ⟨p0, p1, p2, p3, p4, p5, p6⟩ := BC.out _ HB.out) | fail)
        go_ret
        exact ⟨ret_eq (by rw [HD.out]; (simp [kindOk, h1, hn]) <;> (intros; omega)), below_step HB0.out HB.out⟩
      by_cases z8 : (d.f2.length : Int) ≤ 8
      rotate_left
      · go_wp2_with (first | (go_at_call 82; (with_reducible refine (refWord d.f1 _ hs1).mono ?_); rw [hn]; rintro r W5 ⟨rfl, hb⟩; replace HB := bst HB hb; clear hb; clear p0 p1 p2 p3 p4 p5 p6; obtain ⟨p0, p1, p2, p3, p4, p5, p6⟩ := BC.out _ HB.out) | fail)
        go_ret
        exact ⟨ret_eq (by rw [HD.out]; (simp [kindOk, h1, hn, z8]) <;> (intros; omega)), below_step HB0.out HB.out⟩
      by_cases z3 : d.f3 = 0
      rotate_left
      · go_wp2_with (first | (go_at_call 82; (with_reducible refine (refWord d.f1 _ hs1).mono ?_); rw [hn]; rintro r W5 ⟨rfl, hb⟩; replace HB := bst HB hb; clear hb; clear p0 p1 p2 p3 p4 p5 p6; obtain ⟨p0, p1, p2, p3, p4, p5, p6⟩ := BC.out _ HB.out) | fail)
        go_ret
        exact ⟨ret_eq (by rw [HD.out]; (simp [kindOk, h1, hn, z8, z3]) <;> (intros; omega)), below_step HB0.out HB.out⟩
      by_cases z4 : d.f4 = 0
      rotate_left
      · go_wp2_with (first | (go_at_call 82; (with_reducible refine (refWord d.f1 _ hs1).mono ?_); rw [hn]; rintro r W5 ⟨rfl, hb⟩; replace HB := bst HB hb; clear hb; clear p0 p1 p2 p3 p4 p5 p6; obtain ⟨p0, p1, p2, p3, p4, p5, p6⟩ := BC.out _ HB.out) | fail)
        go_ret
        exact ⟨ret_eq (by rw [HD.out]; (simp [kindOk, h1, hn, z8, z3, z4]) <;> (intros; omega)), below_step HB0.out HB.out⟩
      go_wp2_with (first | (go_at_call 82; (with_reducible refine (refWord d.f1 _ hs1).mono ?_); rw [hn]; rintro r W5 ⟨rfl, hb⟩; replace HB := bst HB hb; clear hb; clear p0 p1 p2 p3 p4 p5 p6; obtain ⟨p0, p1, p2, p3, p4, p5, p6⟩ := BC.out _ HB.out) | fail)
      go_ret
      exact ⟨ret_eq (by rw [HD.out]; (simp [kindOk, h1, hn, z8, z3, z4]) <;> (intros; omega)), below_step HB0.out HB.out⟩
    by_cases h2 : d.f0 = 2
    · skip
      cases hn : d.f1.toList.isEmpty
      · go_wp2_with (fail)
        go_ret
        exact ⟨ret_eq (by rw [HD.out]; (simp [kindOk, h2, hn]) <;> (intros; omega)), below_step HB0.out HB.out⟩
      by_cases z8 : d.f2.length = 0
      rotate_left
      · go_wp2_with (fail)
        go_ret
        exact ⟨ret_eq (by rw [HD.out]; (simp [kindOk, h2, hn, z8]) <;> (intros; omega)), below_step HB0.out HB.out⟩
      by_cases z3 : d.f3 = 0
      rotate_left
      · go_wp2_with (fail)
        go_ret
        exact ⟨ret_eq (by rw [HD.out]; (simp [kindOk, h2, hn, z8, z3]) <;> (intros; omega)), below_step HB0.out HB.out⟩
      by_cases z4 : d.f4 = 0
      rotate_left
      · go_wp2_with (fail)
        go_ret
        exact ⟨ret_eq (by rw [HD.out]; (simp [kindOk, h2, hn, z8, z3, z4]) <;> (intros; omega)), below_step HB0.out HB.out⟩
      go_wp2_with (fail)
      go_ret
      exact ⟨ret_eq (by rw [HD.out]; (simp [kindOk, h2, hn, z8, z3, z4]) <;> (intros; omega)), below_step HB0.out HB.out⟩
    by_cases h3 : d.f0 = 3
    · skip
      cases hn : d.f1.toList.isEmpty
      · go_wp2_with (fail)
        go_ret
        exact ⟨ret_eq (by rw [HD.out]; (simp [kindOk, h3, hn]) <;> (intros; omega)), below_step HB0.out HB.out⟩
      by_cases z8 : d.f2.length = 0
      rotate_left
      · go_wp2_with (fail)
        go_ret
        exact ⟨ret_eq (by rw [HD.out]; (simp [kindOk, h3, hn, z8]) <;> (intros; omega)), below_step HB0.out HB.out⟩
      by_cases y1 : (0 : Int) ≤ d.f3
      rotate_left
      · go_wp2_with (fail)
        go_ret
        exact ⟨ret_eq (by rw [HD.out]; (simp [kindOk, h3, hn, z8, y1]) <;> (intros; omega)), below_step HB0.out HB.out⟩
      by_cases y2 : d.f3 ≤ 31
      rotate_left
      · go_wp2_with (fail)
        go_ret
        exact ⟨ret_eq (by rw [HD.out]; (simp [kindOk, h3, hn, z8, y1, y2]) <;> (intros; omega)), below_step HB0.out HB.out⟩
      by_cases y3 : (1 : Int) ≤ d.f4
      rotate_left
      · go_wp2_with (fail)
        go_ret
        exact ⟨ret_eq (by rw [HD.out]; (simp [kindOk, h3, hn, z8, y1, y2, y3]) <;> (intros; omega)), below_step HB0.out HB.out⟩
      by_cases y4 : d.f4 ≤ 15
      rotate_left
      · go_wp2_with (fail)
        go_ret
        exact ⟨ret_eq (by rw [HD.out]; (simp [kindOk, h3, hn, z8, y1, y2, y3, y4]) <;> (intros; omega)), below_step HB0.out HB.out⟩
      go_wp2_with (fail)
      go_ret
      exact ⟨ret_eq (by rw [HD.out]; (simp [kindOk, h3, hn, z8, y1, y2, y3, y4]) <;> (intros; omega)), below_step HB0.out HB.out⟩
    go_wp2
    go_ret
    exact ⟨ret_eq (show false = X by rw [HD.out]; simp [kindOk, h1, h2, h3]), below_step HB0.out HB.out⟩
end Go.Proofs.YtgkhpecllhiidaaDoor.A
