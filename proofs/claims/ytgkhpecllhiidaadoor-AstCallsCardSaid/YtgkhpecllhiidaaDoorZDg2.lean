/- The reference of chapter 6: Check. -/
import Derived.Test.YtgkhpecllhiidaaDoorZBb
import Derived.Test.YtgkhpecllhiidaaDoorZDg
import Derived.IntWalk
set_option linter.unusedVariables false
set_option linter.unusedSimpArgs false
namespace Go.Proofs.YtgkhpecllhiidaaDoor.A
open Go.RowKit Go.Shelf Go.Proofs.YtgkhpecllhiidaaDoor.As Go.Proofs.YtgkhpecllhiidaaDoorW.PrintWords Go.Proofs.YtgkhpecllhiidaaDoorW.PrintLast Go.Proofs.YtgkhpecllhiidaaDoorW.PrintMore
theorem tooLong_eq : ∀ (l : List Nd) (c : Nat), c ≤ 4000 → tooLong c l = (decide (4000 < c + sizes l) || decide (60 < deeps l))
  | [], c, h => by
    rw [tooLong, show sizes [] = 0 from rfl, show deeps [] = 0 from rfl, decide_eq_false (by omega), decide_eq_false (by omega)]; rfl
  | x :: l, c, h => by
    have hs : sizes (x :: l) = x.size + sizes l := by unfold sizes; rw [List.map_cons, List.sum_cons]
    rw [tooLong, deeps_cons, hs]
    by_cases h1 : 4000 < c + x.size
    · rw [decide_eq_true h1, decide_eq_true (show 4000 < c + (x.size + sizes l) by omega)]; rfl
    · rw [tooLong_eq l (c + x.size) (by omega), decide_eq_false h1, Nat.add_assoc]
      by_cases h2 : 60 < x.deep
      · rw [decide_eq_true h2, decide_eq_true (show 60 < max x.deep (deeps l) by omega)]; simp
      · rw [decide_eq_false h2]
        by_cases h3 : 60 < deeps l
        · rw [decide_eq_true h3, decide_eq_true (show 60 < max x.deep (deeps l) by omega)]; simp
        · rw [decide_eq_false h3, decide_eq_false (show ¬ 60 < max x.deep (deeps l) by omega)]; simp
theorem nodes_all : ∀ l : List SD, (nodes l).all rightN = l.all (fun d => rightSs exprB stmtB d.f5)
  | [] => rfl
  | d :: l => by
    rw [nodes_cons, List.all_append, List.all_cons, nodes_all l, right_st exprB stmtB d.f5]
theorem all_and {α : Type} (f g : α → Bool) : ∀ l : List α, (l.all f && l.all g) = l.all (fun x => f x && g x)
  | [] => rfl
  | x :: l => by
    rw [List.all_cons, List.all_cons, List.all_cons, ← all_and f g l]
    cases f x <;> cases g x <;> cases l.all f <;> cases l.all g <;> rfl
def fineP (p : SP) : Bool := !decide (p.f0 < 1) && (!decide (65536 < p.f0) && (p.f1.all globB && (p.f2.all gateB && p.f3.all (fun d => declB d && rightSs exprB stmtB d.f5))))
theorem checkP_ref (p : SP) : checkP p = if 4000 < sizes (nodes p.f3) ∨ 60 < deeps (nodes p.f3) then 3 else if fineP p = true then 0 else 2 := by
  unfold checkP checkN fineP
  rw [tooLong_eq _ 0 (by omega), Nat.zero_add, nodes_all, ← all_and]
  by_cases h : 4000 < sizes (nodes p.f3) ∨ 60 < deeps (nodes p.f3)
  · rw [if_pos h, if_pos (by simpa using h)]; rfl
  · rw [if_neg h, if_neg (by simpa using h)]
    generalize p.f3.all (fun d => rightSs exprB stmtB d.f5) = z1
    generalize p.f3.all declB = z2
    generalize p.f1.all globB = z3
    generalize p.f2.all gateB = z4
    unfold checkV
    rw [show decide (p.f0 > 65536) = decide (65536 < p.f0) from rfl]
    generalize decide (p.f0 < 1) = z5
    generalize decide (65536 < p.f0) = z6
    revert z1 z2 z3 z4 z5 z6
    decide
attribute [local go_sem] max2_int max_two
set_option maxRecDepth 100000 in
set_option maxHeartbeats 8000000 in
theorem refCheck (p : SP) (hF : fitP p = true) (A1 A2 A3 : Option Addr) (c1 c2 c3 : Nat) (w : World) (hR : RowsP w p A1 A2 A3 c1 c2 c3) :
    Calls Tryd.prog 39 #[.agg #[.int .i64 p.f0, .slice A1 p.f1.length c1, .slice A2 p.f2.length c2, .slice A3 p.f3.length c3]] w fun r w' => r = .returned (.int .i64 (checkP p)) ∧ Below w.heap.size w w' := by
  have n1 : p.f1.length ≤ 9223372036854775807 := hR.1.2.1
  have n2 : p.f2.length ≤ 9223372036854775807 := hR.2.1.2.1
  have n3 : p.f3.length ≤ 9223372036854775807 := hR.2.2.1.2.1
  obtain ⟨_, hz, hfit, hg, ht, hd⟩ := fitP_parts hF
  obtain ⟨X, hX⟩ : ∃ X, checkP p = X := ⟨_, rfl⟩
  rw [hX]
  rw [checkP_ref] at hX
  have hS := fun A1 A2 A3 c1 c2 c3 W => refSize p hz A1 A2 A3 c1 c2 c3 W
  have hDp := fun A1 A2 A3 c1 c2 c3 W => refDeep p hz A1 A2 A3 c1 c2 c3 W
  obtain ⟨zs, hzs⟩ : ∃ n, sizes (nodes p.f3) = n := ⟨_, rfl⟩
  obtain ⟨ds, hds⟩ : ∃ n, deeps (nodes p.f3) = n := ⟨_, rfl⟩
  rw [hzs, hds] at hX
  rw [hzs] at hS
  rw [hds] at hDp
  have HX := Lx.Hd.mk hX
  have HS := Lx.Hd.mk hS
  have HDp := Lx.Hd.mk hDp
  have HG := Lx.Hd.mk hg
  have HT := Lx.Hd.mk ht
  have HDn := Lx.Hd.mk hd
  have HI : Lx.Hd (∀ d ∈ p.f3, ∀ x ∈ d.f5, StAtR x) := Lx.Hd.mk fun d hd' x hx => refStmt (deepS x) x (Nat.le_refl _) (fit_parts (hfit (.st x) (by unfold nodes bodies; exact List.mem_map.2 ⟨x, List.mem_flatMap.2 ⟨d, hd', hx⟩, rfl⟩))).2.2
  have HR0 := Lx.Hd.mk hR
  clear hX hS hDp hg ht hd hR hz hfit hF hzs hds
  go_enter Tryd.func39, Tryd.ntmps39
  go_upto_region 1 with (fail)
  refine name_world fun W2 hW2 => ?_
  have HB0 : Lx.Hd (Below w.heap.size w W2) := Lx.Hd.mk (by rw [hW2]; exact below_alloc (Below.refl _ _) _)
  have hb1 : W2.heap[w.heap.size]? = some (.cells #[.int .i64 p.f0, .slice A1 p.f1.length c1, .slice A2 p.f2.length c2, .slice A3 p.f3.length c3] 46 (0, 0)) := by rw [hW2]; exact World.alloc_heap_new w _
  have BC := Lx.Hd.mk (bkP_of hb1)
  have HR : Lx.Hd (RowsP W2 p A1 A2 A3 c1 c2 c3) := Lx.Hd.mk (RowsP.below HR0.out HB0.out)
  have HB : Lx.Hd (Below W2.heap.size W2 W2) := Lx.Hd.mk (Below.refl _ _)
  clear hW2 hb1 HR0
  generalize w.heap.size = bx at BC ⊢
  obtain ⟨p0, p1, p2, p3⟩ := BC.out _ HB.out
  by_cases z1 : 4000 < zs
  · have z1' : (4000 : Int) < zs := by omega
    go_wp2_with (first | (go_at_call 42; (with_reducible refine (HS.out A1 A2 A3 c1 c2 c3 _ ?s1).mono ?_); (case s1 => exact RowsP.below HR.out HB.out); rintro r W5 ⟨rfl, hb⟩; replace HB := bst HB hb; clear hb; clear p0 p1 p2 p3; obtain ⟨p0, p1, p2, p3⟩ := BC.out _ HB.out) | fail)
    go_ret
    exact ⟨reti_eq (by rw [← HX.out, if_pos (.inl z1)]), below_step HB0.out HB.out⟩
  by_cases z2 : 60 < ds
  · have z2' : (60 : Int) < ds := by omega
    go_wp2_with (first | (go_at_call 42; (with_reducible refine (HS.out A1 A2 A3 c1 c2 c3 _ ?s1).mono ?_); (case s1 => exact RowsP.below HR.out HB.out); rintro r W5 ⟨rfl, hb⟩; replace HB := bst HB hb; clear hb; clear p0 p1 p2 p3; obtain ⟨p0, p1, p2, p3⟩ := BC.out _ HB.out) | (go_at_call 43; (with_reducible refine (HDp.out A1 A2 A3 c1 c2 c3 _ ?s1).mono ?_); (case s1 => exact RowsP.below HR.out HB.out); rintro r W5 ⟨rfl, hb⟩; replace HB := bst HB hb; clear hb; clear p0 p1 p2 p3; obtain ⟨p0, p1, p2, p3⟩ := BC.out _ HB.out) | fail)
    go_ret
    exact ⟨reti_eq (by rw [← HX.out, if_pos (.inr z2)]), below_step HB0.out HB.out⟩
  have HXX : Lx.Hd (X = if fineP p = true then 0 else 2) := Lx.Hd.mk (by rw [← HX.out, if_neg (by omega)])
  by_cases y1 : p.f0 < 1
  · go_wp2_with (first | (go_at_call 42; (with_reducible refine (HS.out A1 A2 A3 c1 c2 c3 _ ?s1).mono ?_); (case s1 => exact RowsP.below HR.out HB.out); rintro r W5 ⟨rfl, hb⟩; replace HB := bst HB hb; clear hb; clear p0 p1 p2 p3; obtain ⟨p0, p1, p2, p3⟩ := BC.out _ HB.out) | (go_at_call 43; (with_reducible refine (HDp.out A1 A2 A3 c1 c2 c3 _ ?s1).mono ?_); (case s1 => exact RowsP.below HR.out HB.out); rintro r W5 ⟨rfl, hb⟩; replace HB := bst HB hb; clear hb; clear p0 p1 p2 p3; obtain ⟨p0, p1, p2, p3⟩ := BC.out _ HB.out) | fail)
    go_ret
    exact ⟨reti_eq (by rw [HXX.out, show fineP p = false by unfold fineP; rw [decide_eq_true (show p.f0 < 1 by omega)]; rfl]; rfl), below_step HB0.out HB.out⟩
  by_cases y2 : 65536 < p.f0
  · go_wp2_with (first | (go_at_call 42; (with_reducible refine (HS.out A1 A2 A3 c1 c2 c3 _ ?s1).mono ?_); (case s1 => exact RowsP.below HR.out HB.out); rintro r W5 ⟨rfl, hb⟩; replace HB := bst HB hb; clear hb; clear p0 p1 p2 p3; obtain ⟨p0, p1, p2, p3⟩ := BC.out _ HB.out) | (go_at_call 43; (with_reducible refine (HDp.out A1 A2 A3 c1 c2 c3 _ ?s1).mono ?_); (case s1 => exact RowsP.below HR.out HB.out); rintro r W5 ⟨rfl, hb⟩; replace HB := bst HB hb; clear hb; clear p0 p1 p2 p3; obtain ⟨p0, p1, p2, p3⟩ := BC.out _ HB.out) | fail)
    go_ret
    exact ⟨reti_eq (by rw [HXX.out, show fineP p = false by unfold fineP; rw [decide_eq_true y2]; simp]; rfl), below_step HB0.out HB.out⟩
  have HXY : Lx.Hd (X = if (p.f1.all globB && (p.f2.all gateB && p.f3.all (fun d => declB d && rightSs exprB stmtB d.f5))) = true then 0 else 2) := Lx.Hd.mk (by rw [HXX.out]; unfold fineP; rw [decide_eq_false (show ¬ p.f0 < 1 by omega), decide_eq_false y2]; rfl)
  clear HXX HX
  go_upto_region 5 with (first | (go_at_call 42; (with_reducible refine (HS.out A1 A2 A3 c1 c2 c3 _ ?s1).mono ?_); (case s1 => exact RowsP.below HR.out HB.out); rintro r W5 ⟨rfl, hb⟩; replace HB := bst HB hb; clear hb; clear p0 p1 p2 p3; obtain ⟨p0, p1, p2, p3⟩ := BC.out _ HB.out) | (go_at_call 43; (with_reducible refine (HDp.out A1 A2 A3 c1 c2 c3 _ ?s1).mono ?_); (case s1 => exact RowsP.below HR.out HB.out); rintro r W5 ⟨rfl, hb⟩; replace HB := bst HB hb; clear hb; clear p0 p1 p2 p3; obtain ⟨p0, p1, p2, p3⟩ := BC.out _ HB.out) | fail)
  clear HS HDp
  go_upto_block 0 with (fail)
  go_cut [2, 3, 4] (fun v2 v3 v4 wc => Lx.Hd (p.f1.all globB = true) ∧ Lx.Hd (Below W2.heap.size W2 wc))
  case first =>
    rename_i Kq hKq Jq Kq1 hJq hKq1
    clear hKq
    go_wp2
    go_loopw [3] (fun t3 wr => ∃ i : Nat, i ≤ p.f1.length ∧ t3 = .int .i64 i ∧ Lx.Hd ((p.f1.take i).all globB = true) ∧ Lx.Hd (Below W2.heap.size W2 wr)) (fun t3 _ => p.f1.length - (intOf t3).toNat)
    case atStart => exact ⟨0, Nat.zero_le _, rfl, Lx.Hd.mk rfl, HB⟩
    case round =>
      clear p0 p1 p2 p3 HB
      obtain ⟨i, hi, rfl, HAL, HB⟩ := hrel
      obtain ⟨p0, p1, p2, p3⟩ := BC.out _ HB.out
      by_cases hlt : i < p.f1.length
      · obtain ⟨ad, Q3, d3, rfl, e0, e1, e2, e3, e4, k3, g3⟩ := at_T99 (show kG.C W2 A1 p.f1.length p.f1 from HR.out.1) i (by omega) (by omega)
        have ex : rd_T99 p.f1 i = p.f1[i] := by unfold rd_T99; rw [Int.toNat_natCast, List.getD_eq_getElem?_getD, List.getElem?_eq_getElem hlt]; rfl
        rw [ex] at e0 e1 e2 e3 e4 k3 g3
        rw [Int.toNat_natCast] at e0 e1 e2 e3 e4
        have HM := Lx.Hd.mk (List.getElem_mem hlt)
        have HTk : Lx.Hd (p.f1.take (i + 1) = p.f1.take i ++ [p.f1[i]]) := Lx.Hd.mk (by rw [List.take_succ_eq_append_getElem hlt])
        generalize p.f1[i] = x at *
        clear ex
        have r0 := pw_cell_below HB.out e0
        have r1 := pw_cell_below HB.out e1
        have r2 := pw_cell_below HB.out e2
        have r3 := pw_cell_below HB.out e3
        have r4 := pw_cell_below HB.out e4
        clear e0 e1 e2 e3 e4
        go_upto_region 9 with (fail)
        refine name_world fun W6 hW6 => ?_
        have hb6 : W6.heap[wr.heap.size]? = some (.cells #[.string x.f0, .int .i64 x.f1, .int .i64 x.f2, .slice Q3 x.f3.length d3, .int .i64 x.f4] 99 (0, 0)) := by rw [hW6]; exact World.alloc_heap_new wr _
        have hn_ : Lx.Hd (Below W2.heap.size W2 W6) := Lx.Hd.mk (by rw [hW6]; exact HB.out.trans (((Below.refl _ wr).alloc (Nat.le_refl _) _).mono HB.out.size))
        generalize wr.heap.size = bz at hb6 ⊢
        have BG := Lx.Hd.mk (bkG_of hb6)
        have HBg : Lx.Hd (Below W6.heap.size W6 W6) := Lx.Hd.mk (Below.refl _ _)
        clear hW6 hb6 HB p0 p1 p2 p3 r0 r1 r2 r3 r4
        have HB := hn_
        clear hn_
        obtain ⟨q0, q1, q2, q3, q4⟩ := BG.out _ HBg.out
        cases hn : nameB x.f0
        · go_wp2_with (first | (go_at_call 82; (with_reducible refine (refWord x.f0 _ (HG.out x HM.out)).mono ?_); rw [hn]; rintro r W5 ⟨rfl, hb⟩; replace HB := bst HB hb; replace HBg := bst HBg hb; clear hb; clear q0 q1 q2 q3 q4; obtain ⟨q0, q1, q2, q3, q4⟩ := BG.out _ HBg.out) | fail)
          go_ret
          exact ⟨reti_eq (by rw [HXY.out, show (p.f1.all globB && (p.f2.all gateB && p.f3.all (fun d => declB d && rightSs exprB stmtB d.f5))) = false by rw [all_not HM.out (show globB x = false by (simp [globB, hn]) <;> (intros; omega))]; rfl]; rfl), below_step HB0.out HB.out⟩
        by_cases hw : 0 < widthI x.f1
        rotate_left
        · go_wp2_with (first | (go_at_call 82; (with_reducible refine (refWord x.f0 _ (HG.out x HM.out)).mono ?_); rw [hn]; rintro r W5 ⟨rfl, hb⟩; replace HB := bst HB hb; replace HBg := bst HBg hb; clear hb; clear q0 q1 q2 q3 q4; obtain ⟨q0, q1, q2, q3, q4⟩ := BG.out _ HBg.out) | (go_at_call 83; (with_reducible refine (refTy x.f1 _).mono ?_); (first | rw [decide_eq_true hw] | rw [decide_eq_false (show ¬ 0 < widthI x.f1 by omega)]); rintro r W5 ⟨rfl, hb⟩; replace HB := bst HB hb; replace HBg := bst HBg hb; clear hb; clear q0 q1 q2 q3 q4; obtain ⟨q0, q1, q2, q3, q4⟩ := BG.out _ HBg.out) | fail)
          go_ret
          exact ⟨reti_eq (by rw [HXY.out, show (p.f1.all globB && (p.f2.all gateB && p.f3.all (fun d => declB d && rightSs exprB stmtB d.f5))) = false by rw [all_not HM.out (show globB x = false by (simp [globB, hn, hw]) <;> (intros; omega))]; rfl]; rfl), below_step HB0.out HB.out⟩
        by_cases y3 : x.f2 < 0
        · go_wp2_with (first | (go_at_call 82; (with_reducible refine (refWord x.f0 _ (HG.out x HM.out)).mono ?_); rw [hn]; rintro r W5 ⟨rfl, hb⟩; replace HB := bst HB hb; replace HBg := bst HBg hb; clear hb; clear q0 q1 q2 q3 q4; obtain ⟨q0, q1, q2, q3, q4⟩ := BG.out _ HBg.out) | (go_at_call 83; (with_reducible refine (refTy x.f1 _).mono ?_); (first | rw [decide_eq_true hw] | rw [decide_eq_false (show ¬ 0 < widthI x.f1 by omega)]); rintro r W5 ⟨rfl, hb⟩; replace HB := bst HB hb; replace HBg := bst HBg hb; clear hb; clear q0 q1 q2 q3 q4; obtain ⟨q0, q1, q2, q3, q4⟩ := BG.out _ HBg.out) | fail)
          go_ret
          exact ⟨reti_eq (by rw [HXY.out, show (p.f1.all globB && (p.f2.all gateB && p.f3.all (fun d => declB d && rightSs exprB stmtB d.f5))) = false by rw [all_not HM.out (show globB x = false by (simp [globB, hn, hw, y3]) <;> (intros; omega))]; rfl]; rfl), below_step HB0.out HB.out⟩
        by_cases y4 : 4096 < x.f2
        · go_wp2_with (first | (go_at_call 82; (with_reducible refine (refWord x.f0 _ (HG.out x HM.out)).mono ?_); rw [hn]; rintro r W5 ⟨rfl, hb⟩; replace HB := bst HB hb; replace HBg := bst HBg hb; clear hb; clear q0 q1 q2 q3 q4; obtain ⟨q0, q1, q2, q3, q4⟩ := BG.out _ HBg.out) | (go_at_call 83; (with_reducible refine (refTy x.f1 _).mono ?_); (first | rw [decide_eq_true hw] | rw [decide_eq_false (show ¬ 0 < widthI x.f1 by omega)]); rintro r W5 ⟨rfl, hb⟩; replace HB := bst HB hb; replace HBg := bst HBg hb; clear hb; clear q0 q1 q2 q3 q4; obtain ⟨q0, q1, q2, q3, q4⟩ := BG.out _ HBg.out) | fail)
          go_ret
          exact ⟨reti_eq (by rw [HXY.out, show (p.f1.all globB && (p.f2.all gateB && p.f3.all (fun d => declB d && rightSs exprB stmtB d.f5))) = false by rw [all_not HM.out (show globB x = false by (simp [globB, hn, hw, y3, y4]) <;> (intros; omega))]; rfl]; rfl), below_step HB0.out HB.out⟩
        obtain ⟨M, hm⟩ : ∃ M, (if (1 : Int) < x.f2 then x.f2 else 1) = M := ⟨_, rfl⟩
        have HMx : Lx.Hd (max 1 x.f2 = M) := Lx.Hd.mk (by rw [← hm]; split <;> omega)
        by_cases y5 : M < (x.f3.length : Int)
        · go_wp2_with (first | (go_at_call 82; (with_reducible refine (refWord x.f0 _ (HG.out x HM.out)).mono ?_); rw [hn]; rintro r W5 ⟨rfl, hb⟩; replace HB := bst HB hb; replace HBg := bst HBg hb; clear hb; clear q0 q1 q2 q3 q4; obtain ⟨q0, q1, q2, q3, q4⟩ := BG.out _ HBg.out) | (go_at_call 83; (with_reducible refine (refTy x.f1 _).mono ?_); (first | rw [decide_eq_true hw] | rw [decide_eq_false (show ¬ 0 < widthI x.f1 by omega)]); rintro r W5 ⟨rfl, hb⟩; replace HB := bst HB hb; replace HBg := bst HBg hb; clear hb; clear q0 q1 q2 q3 q4; obtain ⟨q0, q1, q2, q3, q4⟩ := BG.out _ HBg.out) | fail)
          go_ret
          exact ⟨reti_eq (by rw [HXY.out, show (p.f1.all globB && (p.f2.all gateB && p.f3.all (fun d => declB d && rightSs exprB stmtB d.f5))) = false by rw [all_not HM.out (show globB x = false by have hm2 := HMx.out; (simp [globB, hn, hw, y3, y4, y5]) <;> (intros; omega))]; rfl]; rfl), below_step HB0.out HB.out⟩
        by_cases y6 : x.f4 < 0
        · go_wp2_with (first | (go_at_call 82; (with_reducible refine (refWord x.f0 _ (HG.out x HM.out)).mono ?_); rw [hn]; rintro r W5 ⟨rfl, hb⟩; replace HB := bst HB hb; replace HBg := bst HBg hb; clear hb; clear q0 q1 q2 q3 q4; obtain ⟨q0, q1, q2, q3, q4⟩ := BG.out _ HBg.out) | (go_at_call 83; (with_reducible refine (refTy x.f1 _).mono ?_); (first | rw [decide_eq_true hw] | rw [decide_eq_false (show ¬ 0 < widthI x.f1 by omega)]); rintro r W5 ⟨rfl, hb⟩; replace HB := bst HB hb; replace HBg := bst HBg hb; clear hb; clear q0 q1 q2 q3 q4; obtain ⟨q0, q1, q2, q3, q4⟩ := BG.out _ HBg.out) | fail)
          go_ret
          exact ⟨reti_eq (by rw [HXY.out, show (p.f1.all globB && (p.f2.all gateB && p.f3.all (fun d => declB d && rightSs exprB stmtB d.f5))) = false by rw [all_not HM.out (show globB x = false by have hm2 := HMx.out; (simp [globB, hn, hw, y3, y4, y5, y6]) <;> (intros; omega))]; rfl]; rfl), below_step HB0.out HB.out⟩
        go_wp2_with (first | (go_at_call 82; (with_reducible refine (refWord x.f0 _ (HG.out x HM.out)).mono ?_); rw [hn]; rintro r W5 ⟨rfl, hb⟩; replace HB := bst HB hb; replace HBg := bst HBg hb; clear hb; clear q0 q1 q2 q3 q4; obtain ⟨q0, q1, q2, q3, q4⟩ := BG.out _ HBg.out) | (go_at_call 83; (with_reducible refine (refTy x.f1 _).mono ?_); (first | rw [decide_eq_true hw] | rw [decide_eq_false (show ¬ 0 < widthI x.f1 by omega)]); rintro r W5 ⟨rfl, hb⟩; replace HB := bst HB hb; replace HBg := bst HBg hb; clear hb; clear q0 q1 q2 q3 q4; obtain ⟨q0, q1, q2, q3, q4⟩ := BG.out _ HBg.out) | fail)
        exact ⟨⟨i + 1, hlt, by go_num, Lx.Hd.mk (take_next HAL.out HTk.out (by have hm2 := HMx.out; (simp [globB, hn, hw, y3, y4, y5, y6]) <;> (intros; omega))), HB⟩, by simp [intOf]; omega⟩
      have HN : Lx.Hd (p.f1.all globB = true) := Lx.Hd.mk (take_all HAL.out (show i = p.f1.length by omega))
      clear HAL
      go_wp2
      go_meet
      case rel => exact ⟨HN, HB⟩
  case rest =>
    obtain ⟨HG1, HBc⟩ := hcut
    clear HB p0 p1 p2 p3
    have HB := HBc
    clear HBc
    obtain ⟨p0, p1, p2, p3⟩ := BC.out _ HB.out
    go_upto_block 2 with (fail)
    go_cut [2, 5, 6] (fun v2 v5 v6 wc => Lx.Hd (p.f2.all gateB = true) ∧ Lx.Hd (Below W2.heap.size W2 wc))
    case first =>
      rename_i Kq hKq Jq Kq1 hJq hKq1
      clear hKq
      go_wp2
      go_loopw [5] (fun t5 wr => ∃ i : Nat, i ≤ p.f2.length ∧ t5 = .int .i64 i ∧ Lx.Hd ((p.f2.take i).all gateB = true) ∧ Lx.Hd (Below W2.heap.size W2 wr)) (fun t5 _ => p.f2.length - (intOf t5).toNat)
      case atStart => exact ⟨0, Nat.zero_le _, rfl, Lx.Hd.mk rfl, HB⟩
      case round =>
        clear p0 p1 p2 p3 HB
        obtain ⟨i, hi, rfl, HAL, HB⟩ := hrel
        obtain ⟨p0, p1, p2, p3⟩ := BC.out _ HB.out
        by_cases hlt : i < p.f2.length
        · obtain ⟨ad, rfl, e0, e1, e2, e3⟩ := at_T105 (show kT.C W2 A2 p.f2.length p.f2 from HR.out.2.1) i (by omega) (by omega)
          have ex : rd_T105 p.f2 i = p.f2[i] := by unfold rd_T105; rw [Int.toNat_natCast, List.getD_eq_getElem?_getD, List.getElem?_eq_getElem hlt]; rfl
          rw [ex] at e0 e1 e2 e3
          rw [Int.toNat_natCast] at e0 e1 e2 e3
          have HM := Lx.Hd.mk (List.getElem_mem hlt)
          have HTk : Lx.Hd (p.f2.take (i + 1) = p.f2.take i ++ [p.f2[i]]) := Lx.Hd.mk (by rw [List.take_succ_eq_append_getElem hlt])
          generalize p.f2[i] = x at *
          clear ex
          have r0 := pw_cell_below HB.out e0
          have r1 := pw_cell_below HB.out e1
          have r2 := pw_cell_below HB.out e2
          have r3 := pw_cell_below HB.out e3
          clear e0 e1 e2 e3
          go_upto_region 15 with (fail)
          refine name_world fun W6 hW6 => ?_
          have hb6 : W6.heap[wr.heap.size]? = some (.cells #[.string x.f0, .bool x.f1, .bool x.f2, .int .i64 x.f3] 105 (0, 0)) := by rw [hW6]; exact World.alloc_heap_new wr _
          have hn_ : Lx.Hd (Below W2.heap.size W2 W6) := Lx.Hd.mk (by rw [hW6]; exact HB.out.trans (((Below.refl _ wr).alloc (Nat.le_refl _) _).mono HB.out.size))
          generalize wr.heap.size = bz at hb6 ⊢
          have BG := Lx.Hd.mk (bkT_of hb6)
          have HBg : Lx.Hd (Below W6.heap.size W6 W6) := Lx.Hd.mk (Below.refl _ _)
          clear hW6 hb6 HB p0 p1 p2 p3 r0 r1 r2 r3
          have HB := hn_
          clear hn_
          obtain ⟨q0, q1, q2, q3⟩ := BG.out _ HBg.out
          cases hn : nameB x.f0
          · skip
            go_wp2_with (first | (go_at_call 82; (with_reducible refine (refWord x.f0 _ (HT.out x HM.out)).mono ?_); rw [hn]; rintro r W5 ⟨rfl, hb⟩; replace HB := bst HB hb; replace HBg := bst HBg hb; clear hb; clear q0 q1 q2 q3; obtain ⟨q0, q1, q2, q3⟩ := BG.out _ HBg.out) | fail)
            go_ret
            exact ⟨reti_eq (by rw [HXY.out, show (p.f1.all globB && (p.f2.all gateB && p.f3.all (fun d => declB d && rightSs exprB stmtB d.f5))) = false by rw [HG1.out, all_not HM.out (show gateB x = false by (simp [gateB, hn]) <;> (intros; omega))]; rfl]; rfl), below_step HB0.out HB.out⟩
          cases hb1 : x.f1
          · cases hb2 : x.f2
            · skip
              go_wp2_with (first | (go_at_call 82; (with_reducible refine (refWord x.f0 _ (HT.out x HM.out)).mono ?_); rw [hn]; rintro r W5 ⟨rfl, hb⟩; replace HB := bst HB hb; replace HBg := bst HBg hb; clear hb; clear q0 q1 q2 q3; obtain ⟨q0, q1, q2, q3⟩ := BG.out _ HBg.out) | fail)
              go_ret
              exact ⟨reti_eq (by rw [HXY.out, show (p.f1.all globB && (p.f2.all gateB && p.f3.all (fun d => declB d && rightSs exprB stmtB d.f5))) = false by rw [HG1.out, all_not HM.out (show gateB x = false by (simp [gateB, hn, hb1, hb2]) <;> (intros; omega))]; rfl]; rfl), below_step HB0.out HB.out⟩
            · skip
              by_cases y6 : x.f3 < 0
              · skip
                go_wp2_with (first | (go_at_call 82; (with_reducible refine (refWord x.f0 _ (HT.out x HM.out)).mono ?_); rw [hn]; rintro r W5 ⟨rfl, hb⟩; replace HB := bst HB hb; replace HBg := bst HBg hb; clear hb; clear q0 q1 q2 q3; obtain ⟨q0, q1, q2, q3⟩ := BG.out _ HBg.out) | fail)
                go_ret
                exact ⟨reti_eq (by rw [HXY.out, show (p.f1.all globB && (p.f2.all gateB && p.f3.all (fun d => declB d && rightSs exprB stmtB d.f5))) = false by rw [HG1.out, all_not HM.out (show gateB x = false by (simp [gateB, hn, hb1, hb2, y6]) <;> (intros; omega))]; rfl]; rfl), below_step HB0.out HB.out⟩
              go_wp2_with (first | (go_at_call 82; (with_reducible refine (refWord x.f0 _ (HT.out x HM.out)).mono ?_); rw [hn]; rintro r W5 ⟨rfl, hb⟩; replace HB := bst HB hb; replace HBg := bst HBg hb; clear hb; clear q0 q1 q2 q3; obtain ⟨q0, q1, q2, q3⟩ := BG.out _ HBg.out) | fail)
              exact ⟨⟨i + 1, hlt, by go_num, Lx.Hd.mk (take_next HAL.out HTk.out (by (simp [gateB, hn, hb1, hb2, y6]) <;> (intros; omega))), HB⟩, by simp [intOf]; omega⟩
          · skip
            by_cases y6 : x.f3 < 0
            · skip
              go_wp2_with (first | (go_at_call 82; (with_reducible refine (refWord x.f0 _ (HT.out x HM.out)).mono ?_); rw [hn]; rintro r W5 ⟨rfl, hb⟩; replace HB := bst HB hb; replace HBg := bst HBg hb; clear hb; clear q0 q1 q2 q3; obtain ⟨q0, q1, q2, q3⟩ := BG.out _ HBg.out) | fail)
              go_ret
              exact ⟨reti_eq (by rw [HXY.out, show (p.f1.all globB && (p.f2.all gateB && p.f3.all (fun d => declB d && rightSs exprB stmtB d.f5))) = false by rw [HG1.out, all_not HM.out (show gateB x = false by (simp [gateB, hn, hb1, y6]) <;> (intros; omega))]; rfl]; rfl), below_step HB0.out HB.out⟩
            go_wp2_with (first | (go_at_call 82; (with_reducible refine (refWord x.f0 _ (HT.out x HM.out)).mono ?_); rw [hn]; rintro r W5 ⟨rfl, hb⟩; replace HB := bst HB hb; replace HBg := bst HBg hb; clear hb; clear q0 q1 q2 q3; obtain ⟨q0, q1, q2, q3⟩ := BG.out _ HBg.out) | fail)
            exact ⟨⟨i + 1, hlt, by go_num, Lx.Hd.mk (take_next HAL.out HTk.out (by (simp [gateB, hn, hb1, y6]) <;> (intros; omega))), HB⟩, by simp [intOf]; omega⟩
        have HN : Lx.Hd (p.f2.all gateB = true) := Lx.Hd.mk (take_all HAL.out (show i = p.f2.length by omega))
        clear HAL
        go_wp2
        go_meet
        case rel => exact ⟨HN, HB⟩
    case rest =>
      obtain ⟨HT1, HBc⟩ := hcut
      clear HB p0 p1 p2 p3
      have HB := HBc
      clear HBc
      obtain ⟨p0, p1, p2, p3⟩ := BC.out _ HB.out
      go_wp2
      go_loopw [7] (fun t7 wr => ∃ i : Nat, i ≤ p.f3.length ∧ t7 = .int .i64 i ∧ Lx.Hd ((p.f3.take i).all (fun d => declB d && rightSs exprB stmtB d.f5) = true) ∧ Lx.Hd (Below W2.heap.size W2 wr)) (fun t7 _ => p.f3.length - (intOf t7).toNat)
      case atStart => exact ⟨0, Nat.zero_le _, rfl, Lx.Hd.mk rfl, HB⟩
      case round =>
        clear p0 p1 p2 p3 HB
        obtain ⟨i, hi, rfl, HAL, HB⟩ := hrel
        obtain ⟨p0, p1, p2, p3⟩ := BC.out _ HB.out
        by_cases hlt : i < p.f3.length
        · obtain ⟨ad, Q2, d2, Q5, d5, rfl, e0, e1, e2, e3, e4, e5, e6, k2, g2, k5, g5⟩ := at_T49 (show kD.C W2 A3 p.f3.length p.f3 from HR.out.2.2.1) i (by omega) (by omega)
          have ex : rd_T49 p.f3 i = p.f3[i] := by unfold rd_T49; rw [Int.toNat_natCast, List.getD_eq_getElem?_getD, List.getElem?_eq_getElem hlt]; rfl
          rw [ex] at e0 e1 e2 e3 e4 e5 e6 k2 g2 k5 g5
          rw [Int.toNat_natCast] at e0 e1 e2 e3 e4 e5 e6
          have HM := Lx.Hd.mk (List.getElem_mem hlt)
          have HTk : Lx.Hd (p.f3.take (i + 1) = p.f3.take i ++ [p.f3[i]]) := Lx.Hd.mk (by rw [List.take_succ_eq_append_getElem hlt])
          generalize p.f3[i] = x at *
          clear ex
          have r0 := pw_cell_below HB.out e0
          have r1 := pw_cell_below HB.out e1
          have r2 := pw_cell_below HB.out e2
          have r3 := pw_cell_below HB.out e3
          have r4 := pw_cell_below HB.out e4
          have r5 := pw_cell_below HB.out e5
          have r6 := pw_cell_below HB.out e6
          clear e0 e1 e2 e3 e4 e5 e6
          have HK : Lx.Hd (∀ W, Below W2.heap.size W2 W → Calls Tryd.prog 84 #[.agg #[.int .i64 x.f0, .string x.f1, .slice Q2 x.f2.length d2, .int .i64 x.f3, .int .i64 x.f4, .slice Q5 x.f5.length d5, .int .i64 x.f6]] W fun r W' => r = .returned (.bool (declB x && rightSs exprB stmtB x.f5)) ∧ Below W.heap.size W W') := Lx.Hd.mk fun W hb => refDecl x Q2 Q5 d2 d5 W (RowsD.below ⟨g2, g5, k2, k5⟩ hb) (HDn.out x HM.out).1 (HDn.out x HM.out).2 (HI.out x HM.out)
          clear g2 g5
          cases hx : (declB x && rightSs exprB stmtB x.f5)
          all_goals
            go_wp2_with (first | (go_at_call 84; (with_reducible refine (HK.out _ HB.out).mono ?_); rw [hx]; rintro r W5 ⟨rfl, hb⟩; replace HB := bst HB hb; clear hb) | fail)
          · go_ret
            exact ⟨reti_eq (by rw [HXY.out, show (p.f1.all globB && (p.f2.all gateB && p.f3.all (fun d => declB d && rightSs exprB stmtB d.f5))) = false by rw [HG1.out, HT1.out, all_not HM.out hx]; rfl]; rfl), below_step HB0.out HB.out⟩
          · exact ⟨⟨i + 1, hlt, by go_num, Lx.Hd.mk (take_next HAL.out HTk.out hx), HB⟩, by simp [intOf]; omega⟩
        have HN : Lx.Hd (p.f3.all (fun d => declB d && rightSs exprB stmtB d.f5) = true) := Lx.Hd.mk (take_all HAL.out (show i = p.f3.length by omega))
        clear HAL
        go_wp2
        go_ret
        exact ⟨reti_eq (by rw [HXY.out, HG1.out, HT1.out, HN.out]; rfl), below_step HB0.out HB.out⟩
end Go.Proofs.YtgkhpecllhiidaaDoor.A
