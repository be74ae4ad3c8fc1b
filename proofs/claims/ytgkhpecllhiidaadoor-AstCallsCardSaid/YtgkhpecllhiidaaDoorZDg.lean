/- The reference of chapter 6: CheckExpr, CheckStmt, Check. -/
import Derived.Test.YtgkhpecllhiidaaDoorZBb
import Derived.Test.YtgkhpecllhiidaaDoorZDf
import Derived.Test.YtgkhpecllhiidaaDoorZDc
set_option linter.unusedVariables false
set_option linter.unusedSimpArgs false
namespace Go.Proofs.YtgkhpecllhiidaaDoor.A
open Go.RowKit Go.Shelf Go.Proofs.YtgkhpecllhiidaaDoor.As Go.Proofs.YtgkhpecllhiidaaDoorW.PrintWords Go.Proofs.YtgkhpecllhiidaaDoorW.PrintLast Go.Proofs.YtgkhpecllhiidaaDoorW.PrintMore
theorem rowA {α : Type} (k : Kd α) {W : World} {B t : Nat} {x : α} {cs : List Value} (hsz : cs.length = k.sz) (hK : k.K W x cs) (hh : W.heap[B]? = some (.cells cs.toArray t (0, 0))) : k.C W (some ⟨B, 0, none⟩) 1 [x] := by
  refine ⟨rfl, by omega, fun _ => ⟨_, rfl, fun j p hj => ?_⟩⟩
  have hj2 : j < 1 := by have := (List.getElem?_eq_some_iff.1 hj).1; simpa using this
  obtain rfl : j = 0 := by omega
  obtain rfl := Option.some.inj hj
  refine ⟨cs, hsz, hK, fun i u hi => ?_⟩
  rw [add_plain, Nat.zero_mul, Nat.zero_add]
  unfold World.cell?
  rw [hh]
  simpa using hi
theorem checkN_one (x : Nd) : checkN [x] = if 4000 < x.size ∨ 60 < x.deep then 3 else if rightN x = true then 0 else 2 := by
  unfold checkN
  simp only [tooLong, Nat.zero_add, List.all_cons, List.all_nil, Bool.and_true, Bool.or_false, Bool.or_eq_true, decide_eq_true_eq]
theorem reti_eq {a b : Int} (h : a = b) : Ending.returned (.int .i64 a) = .returned (.int .i64 b) := by rw [h]
theorem refSizes1 (e : SE) (A : Option Addr) (w : World) (h : sizeE e < 4611686018427387904) (hC : kE.C w A 1 [e]) :
    Calls Tryd.prog 85 #[.slice A 1 1] w fun r w' => r = .returned (.tuple #[.int .i64 (sizeE e), .int .i64 (deepE e)]) ∧ Below w.heap.size w w' := by
  have := refSizes [e] A 1 w (by rw [sizeEs, sizeEs]; exact h) hC (Nat.le_refl _)
  rw [sizeEs, sizeEs, deepEs, deepEs, Nat.max_zero] at this
  exact this
theorem refStmts1 (e : SS) (A : Option Addr) (w : World) (h : sizeS e < 4611686018427387904) (hC : kS.C w A 1 [e]) :
    Calls Tryd.prog 87 #[.slice A 1 1] w fun r w' => r = .returned (.tuple #[.int .i64 (sizeS e), .int .i64 (deepS e)]) ∧ Below w.heap.size w w' := by
  have := refStmts [e] A 1 w (by rw [sizeSs, sizeSs]; exact h) hC (Nat.le_refl _)
  rw [sizeSs, sizeSs, deepSs, deepSs, Nat.max_zero] at this
  exact this
theorem refExpr_calls (e : SE) (hP : AllN szN (.ex e)) (A5 : Option Addr) (c5 : Nat) (w : World) (hR : RowsE w e A5 c5) : Calls Tryd.prog 86 #[.agg #[.int .i64 e.f0, .int .i64 e.f1, .int .i64 e.f2, .int .u32 e.f3, .string e.f4, .slice A5 e.f5.length c5]] w fun r w' => r = .returned (.bool (rightN (.ex e))) ∧ Below w.heap.size w w' := refExpr (deepE e) e (Nat.le_refl _) hP A5 c5 w hR
theorem refStmt_calls (s : SS) (hP : AllN szN (.st s)) (A5 A6 A7 A8 A9 : Option Addr) (c5 c6 c7 c8 c9 : Nat) (w : World) (hR : RowsS w s A5 A6 A7 A8 A9 c5 c6 c7 c8 c9) : Calls Tryd.prog 88 #[.agg #[.int .i64 s.f0, .int .i64 s.f1, .int .i64 s.f2, .int .i64 s.f3, .string s.f4, .slice A5 s.f5.length c5, .slice A6 s.f6.length c6, .slice A7 s.f7.length c7, .slice A8 s.f8.length c8, .slice A9 s.f9.length c9]] w fun r w' => r = .returned (.bool (rightN (.st s))) ∧ Below w.heap.size w w' := refStmt (deepS s) s (Nat.le_refl _) hP A5 A6 A7 A8 A9 c5 c6 c7 c8 c9 w hR
set_option maxRecDepth 100000 in
set_option maxHeartbeats 4000000 in
theorem refCheckExpr (e : SE) (A5 : Option Addr) (c5 : Nat) (w : World) (hz : sizeE e < 4611686018427387904) (hP : AllN szN (Nd.ex e)) (hR : RowsE w e A5 c5) :
    Calls Tryd.prog 40 #[.agg #[.int .i64 e.f0, .int .i64 e.f1, .int .i64 e.f2, .int .u32 e.f3, .string e.f4, .slice A5 e.f5.length c5]] w fun r w' => r = .returned (.int .i64 (checkN [Nd.ex e])) ∧ Below w.heap.size w w' := by
  obtain ⟨X, hX⟩ : ∃ X, checkN [Nd.ex e] = X := ⟨_, rfl⟩
  obtain ⟨R, hRt⟩ : ∃ R, rightN (Nd.ex e) = R := ⟨_, rfl⟩
  have e1 : (Nd.ex e).size = sizeE e := rfl
  have e2 : (Nd.ex e).deep = deepE e := rfl
  rw [hX]
  rw [checkN_one, hRt, e1, e2] at hX
  have HZ := Lx.Hd.mk hz
  have hr1 := fun A W => refSizes1 e A W hz
  obtain ⟨zs, hzs⟩ : ∃ n, sizeE e = n := ⟨_, rfl⟩
  obtain ⟨ds, hds⟩ : ∃ n, deepE e = n := ⟨_, rfl⟩
  rw [hzs, hds] at hX hr1
  have HX := Lx.Hd.mk hX
  have HRf := Lx.Hd.mk hr1
  have HRt := Lx.Hd.mk hRt
  have HR0 := Lx.Hd.mk hR
  have HP := Lx.Hd.mk hP
  clear hX hRt hR hP hz hr1 hzs hds e1 e2
  go_enter Tryd.func40, Tryd.ntmps40
  go_upto_region 1 with (fail)
  refine name_world fun W2 hW2 => ?_
  have HB0 : Lx.Hd (Below w.heap.size w W2) := Lx.Hd.mk (by rw [hW2]; exact below_alloc (Below.refl _ _) _)
  have hb1 : W2.heap[w.heap.size]? = some (.cells #[.int .i64 e.f0, .int .i64 e.f1, .int .i64 e.f2, .int .u32 e.f3, .string e.f4, .slice A5 e.f5.length c5] 25 (0, 0)) := by rw [hW2]; exact World.alloc_heap_new w _
  have BC := Lx.Hd.mk (cells_of hb1)
  have HR : Lx.Hd (RowsE W2 e A5 c5) := Lx.Hd.mk (RowsE.below HR0.out HB0.out)
  have hrow : kE.C (W2.alloc (.cells #[.int .i64 e.f0, .int .i64 e.f1, .int .i64 e.f2, .int .u32 e.f3, .string e.f4, .slice A5 e.f5.length c5] 25)) (some ⟨W2.heap.size, 0, none⟩) 1 [e] := rowA kE (cs := [.int .i64 e.f0, .int .i64 e.f1, .int .i64 e.f2, .int .u32 e.f3, .string e.f4, .slice A5 e.f5.length c5]) rfl (k25_mk _ e HR.out.2 (Kd.C_alloc HR.out.1 _)) (World.alloc_heap_new _ _)
  have Hrow := Lx.Hd.mk hrow
  have HB : Lx.Hd (Below W2.heap.size W2 W2) := Lx.Hd.mk (Below.refl _ _)
  clear hW2 hb1 HR0 hrow
  generalize w.heap.size = bx at BC ⊢
  obtain ⟨p0, p1, p2, p3, p4, p5⟩ := BC.out _ HB.out
  go_upto_region 2 with (first | (go_at_call 85; (with_reducible refine (HRf.out _ _ ?s1).mono ?_); (case s1 => exact Hrow.out); rintro r W3 ⟨rfl, hb⟩; have hn_ : Lx.Hd (Below W2.heap.size W2 W3) := Lx.Hd.mk ((below_alloc (Below.refl _ _) _).trans (hb.mono (by simp))); clear hb HB; have HB := hn_; clear hn_ p0 p1 p2 p3 p4 p5; obtain ⟨p0, p1, p2, p3, p4, p5⟩ := BC.out _ HB.out) | fail)
  by_cases z1 : 4000 < zs
  · have z1' : (4000 : Int) < zs := by omega
    go_wp2
    go_ret
    exact ⟨reti_eq (by rw [← HX.out, if_pos (.inl z1)]), below_step HB0.out HB.out⟩
  by_cases z2 : 60 < ds
  · have z2' : (60 : Int) < ds := by omega
    go_wp2
    go_ret
    exact ⟨reti_eq (by rw [← HX.out, if_pos (.inr z2)]), below_step HB0.out HB.out⟩
  have HXX : Lx.Hd (X = if R = true then 0 else 2) := Lx.Hd.mk (by rw [← HX.out, if_neg (by omega)])
  cases R
  all_goals
    go_wp2_with (first | (go_at_call 86; (with_reducible refine (refExpr_calls e HP.out A5 c5 _ ?s1).mono ?_); (case s1 => exact RowsE.below HR.out HB.out); rw [HRt.out]; rintro r W5 ⟨rfl, hb⟩; replace HB := bst HB hb; clear hb) | fail)
    go_ret
    exact ⟨reti_eq (by rw [HXX.out]; rfl), below_step HB0.out HB.out⟩
set_option maxRecDepth 100000 in
set_option maxHeartbeats 4000000 in
theorem refCheckStmt (s : SS) (A5 A6 A7 A8 A9 : Option Addr) (c5 c6 c7 c8 c9 : Nat) (w : World) (hz : sizeS s < 4611686018427387904) (hP : AllN szN (Nd.st s)) (hR : RowsS w s A5 A6 A7 A8 A9 c5 c6 c7 c8 c9) :
    Calls Tryd.prog 41 #[.agg #[.int .i64 s.f0, .int .i64 s.f1, .int .i64 s.f2, .int .i64 s.f3, .string s.f4, .slice A5 s.f5.length c5, .slice A6 s.f6.length c6, .slice A7 s.f7.length c7, .slice A8 s.f8.length c8, .slice A9 s.f9.length c9]] w fun r w' => r = .returned (.int .i64 (checkN [Nd.st s])) ∧ Below w.heap.size w w' := by
  obtain ⟨X, hX⟩ : ∃ X, checkN [Nd.st s] = X := ⟨_, rfl⟩
  obtain ⟨R, hRt⟩ : ∃ R, rightN (Nd.st s) = R := ⟨_, rfl⟩
  have e1 : (Nd.st s).size = sizeS s := rfl
  have e2 : (Nd.st s).deep = deepS s := rfl
  rw [hX]
  rw [checkN_one, hRt, e1, e2] at hX
  have HZ := Lx.Hd.mk hz
  have hr1 := fun A W => refStmts1 s A W hz
  obtain ⟨zs, hzs⟩ : ∃ n, sizeS s = n := ⟨_, rfl⟩
  obtain ⟨ds, hds⟩ : ∃ n, deepS s = n := ⟨_, rfl⟩
  rw [hzs, hds] at hX hr1
  have HX := Lx.Hd.mk hX
  have HRf := Lx.Hd.mk hr1
  have HRt := Lx.Hd.mk hRt
  have HR0 := Lx.Hd.mk hR
  have HP := Lx.Hd.mk hP
  clear hX hRt hR hP hz hr1 hzs hds e1 e2
  go_enter Tryd.func41, Tryd.ntmps41
  go_upto_region 1 with (fail)
  refine name_world fun W2 hW2 => ?_
  have HB0 : Lx.Hd (Below w.heap.size w W2) := Lx.Hd.mk (by rw [hW2]; exact below_alloc (Below.refl _ _) _)
  have hb1 : W2.heap[w.heap.size]? = some (.cells #[.int .i64 s.f0, .int .i64 s.f1, .int .i64 s.f2, .int .i64 s.f3, .string s.f4, .slice A5 s.f5.length c5, .slice A6 s.f6.length c6, .slice A7 s.f7.length c7, .slice A8 s.f8.length c8, .slice A9 s.f9.length c9] 38 (0, 0)) := by rw [hW2]; exact World.alloc_heap_new w _
  have BC := Lx.Hd.mk (bkS_of hb1)
  have HR : Lx.Hd (RowsS W2 s A5 A6 A7 A8 A9 c5 c6 c7 c8 c9) := Lx.Hd.mk (RowsS.below HR0.out HB0.out)
  have hrow : kS.C (W2.alloc (.cells #[.int .i64 s.f0, .int .i64 s.f1, .int .i64 s.f2, .int .i64 s.f3, .string s.f4, .slice A5 s.f5.length c5, .slice A6 s.f6.length c6, .slice A7 s.f7.length c7, .slice A8 s.f8.length c8, .slice A9 s.f9.length c9] 38)) (some ⟨W2.heap.size, 0, none⟩) 1 [s] := rowA kS (cs := [.int .i64 s.f0, .int .i64 s.f1, .int .i64 s.f2, .int .i64 s.f3, .string s.f4, .slice A5 s.f5.length c5, .slice A6 s.f6.length c6, .slice A7 s.f7.length c7, .slice A8 s.f8.length c8, .slice A9 s.f9.length c9]) rfl (k38_mk _ s HR.out.2.2.2.2.2.1 (Kd.C_alloc HR.out.1 _) HR.out.2.2.2.2.2.2.1 (Kd.C_alloc HR.out.2.1 _) HR.out.2.2.2.2.2.2.2.1 (Kd.C_alloc HR.out.2.2.1 _) HR.out.2.2.2.2.2.2.2.2.1 (Kd.C_alloc HR.out.2.2.2.1 _) HR.out.2.2.2.2.2.2.2.2.2 (Kd.C_alloc HR.out.2.2.2.2.1 _)) (World.alloc_heap_new _ _)
  have Hrow := Lx.Hd.mk hrow
  have HB : Lx.Hd (Below W2.heap.size W2 W2) := Lx.Hd.mk (Below.refl _ _)
  clear hW2 hb1 HR0 hrow
  generalize w.heap.size = bx at BC ⊢
  obtain ⟨p0, p1, p2, p3, p4, p5, p6, p7, p8, p9⟩ := BC.out _ HB.out
  go_upto_region 2 with (first | (go_at_call 87; (with_reducible refine (HRf.out _ _ ?s1).mono ?_); (case s1 => exact Hrow.out); rintro r W3 ⟨rfl, hb⟩; have hn_ : Lx.Hd (Below W2.heap.size W2 W3) := Lx.Hd.mk ((below_alloc (Below.refl _ _) _).trans (hb.mono (by simp))); clear hb HB; have HB := hn_; clear hn_ p0 p1 p2 p3 p4 p5 p6 p7 p8 p9; obtain ⟨p0, p1, p2, p3, p4, p5, p6, p7, p8, p9⟩ := BC.out _ HB.out) | fail)
  by_cases z1 : 4000 < zs
  · have z1' : (4000 : Int) < zs := by omega
    go_wp2
    go_ret
    exact ⟨reti_eq (by rw [← HX.out, if_pos (.inl z1)]), below_step HB0.out HB.out⟩
  by_cases z2 : 60 < ds
  · have z2' : (60 : Int) < ds := by omega
    go_wp2
    go_ret
    exact ⟨reti_eq (by rw [← HX.out, if_pos (.inr z2)]), below_step HB0.out HB.out⟩
  have HXX : Lx.Hd (X = if R = true then 0 else 2) := Lx.Hd.mk (by rw [← HX.out, if_neg (by omega)])
  cases R
  all_goals
    go_wp2_with (first | (go_at_call 88; (with_reducible refine (refStmt_calls s HP.out A5 A6 A7 A8 A9 c5 c6 c7 c8 c9 _ ?s1).mono ?_); (case s1 => exact RowsS.below HR.out HB.out); rw [HRt.out]; rintro r W5 ⟨rfl, hb⟩; replace HB := bst HB hb; clear hb) | fail)
    go_ret
    exact ⟨reti_eq (by rw [HXX.out]; rfl), below_step HB0.out HB.out⟩
end Go.Proofs.YtgkhpecllhiidaaDoor.A
