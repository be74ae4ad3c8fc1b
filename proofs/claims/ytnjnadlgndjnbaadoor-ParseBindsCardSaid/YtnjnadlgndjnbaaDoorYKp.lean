/- Parse: parse.Expr, whatever the source. -/
import Derived.Test.YtnjnadlgndjnbaaDoorYKn
import Derived.Test.YtnjnadlgndjnbaaDoorYKm
import Derived.Test.YtnjnadlgndjnbaaDoorYFg
section
set_option linter.unusedVariables false
set_option linter.unusedSimpArgs false
namespace Go.Proofs.YtnjnadlgndjnbaaDoor.Pk
open Go.RowKit Go.Proofs.YtnjnadlgndjnbaaDoorW.PrintWords Go.Proofs.YtnjnadlgndjnbaaDoorW.PrintLast Go.Proofs.YtnjnadlgndjnbaaDoorW.PrintMore Go.Proofs.YtnjnadlgndjnbaaDoor.Lx
theorem keys_ks (l : List Tk) : Fp.keys l = ks l 0 := rfl
theorem pos_now (s : ByteArray) (l : List Tk) (i : Nat) (hi : i ≤ l.length) : Fp.posOf s l (ks l i) = ((nowT l i (endOf s).1 (endOf s).2).line, (nowT l i (endOf s).1 (endOf s).2).col) := by
  unfold Fp.posOf
  rw [ks_len, show l.length - (l.length - i) = i from by omega]
  cases h : l[i]? with
  | none =>
    rw [List.drop_eq_nil_of_le (List.getElem?_eq_none_iff.1 h)]
    unfold nowT; rw [h]; rfl
  | some t =>
    obtain ⟨h1, rfl⟩ := List.getElem?_eq_some_iff.1 h
    rw [List.drop_eq_getElem_cons h1]
    unfold nowT; rw [h]; rfl
theorem lt_left {l : List Tk} {i : Nat} {r : List Fp.Key} (hr : r = ks l i) (h0 : ¬ r = []) : i < l.length := by
  rcases Nat.lt_or_ge i l.length with h | h
  · exact h
  · exact absurd (hr.trans (by unfold ks; rw [List.drop_eq_nil_of_le h]; rfl)) h0
theorem ge_left {l : List Tk} {i : Nat} (hr : [] = ks l i) : ¬ i < l.length := by
  intro h
  have := congrArg List.length hr
  rw [ks_len] at this
  simp at this
  omega
theorem fin_out {w w5 : World} {g : Nat} {x : SE} {A5 : Option Addr} {c5 Bq : Nat} (hZ : w5.heap[w.heap.size]? = some (.cells zE6 26 (0, 0))) (hF : w5.heap[w.heap.size + 1]? = some (.cells (fltC (0, 0, 0)) 29 (0, 0)))
    (hR : Kd.R kE 26 w5 Bq (fun k => k ≠ g) (.slice A5 x.f5.length c5) x.f5) (hq : w.heap.size + 1 < Bq) (hb : Below w.heap.size w w5) {W : World}
    (hW : W = (((put6W w5 w.heap.size (.int .i64 x.f0) (.int .i64 x.f1) (.int .i64 x.f2) (.int .u32 x.f3) (.string x.f4) (.slice A5 x.f5.length c5)).setCell ⟨w.heap.size + 1, 0, none⟩ (.int .i64 0)).setCell ⟨w.heap.size + 1, 1, none⟩ (.int .i64 0)).setCell ⟨w.heap.size + 1, 2, none⟩ (.int .i64 0)) :
    W.heap[w.heap.size]? = some (.cells (exC x A5 c5) 26 (0, 0)) ∧ W.heap[w.heap.size + 1]? = some (.cells (fltC (0, 0, 0)) 29 (0, 0)) ∧ Below w.heap.size w W ∧ Kd.R kE 26 W w.heap.size (fun _ => True) (.slice A5 x.f5.length c5) x.f5 := by
  subst hW
  have h6 := put6 hZ (.int .i64 x.f0) (.int .i64 x.f1) (.int .i64 x.f2) (.int .u32 x.f3) (.string x.f4) (.slice A5 x.f5.length c5)
  change (put6W w5 w.heap.size (.int .i64 x.f0) (.int .i64 x.f1) (.int .i64 x.f2) (.int .u32 x.f3) (.string x.f4) (.slice A5 x.f5.length c5)).heap[w.heap.size]? = _ ∧ w5.grownBy (put6W w5 w.heap.size (.int .i64 x.f0) (.int .i64 x.f1) (.int .i64 x.f2) (.int .u32 x.f3) (.string x.f4) (.slice A5 x.f5.length c5)) (some w.heap.size) at h6
  generalize put6W w5 w.heap.size (.int .i64 x.f0) (.int .i64 x.f1) (.int .i64 x.f2) (.int .u32 x.f3) (.string x.f4) (.slice A5 x.f5.length c5) = W3 at h6 ⊢
  have hF3 := keep_blk hF h6.2 (by omega)
  have hR3 := Kd.R_step (Kd.R_bound hR) (fun k hk1 hk2 => h6.2.block k hk2 (fun e => by cases e; have := hk1.2.1; omega))
  have hF4 := blk_put (blk_put (blk_put hF3 0 (.int .i64 0) rfl) 1 (.int .i64 0) rfl) 2 (.int .i64 0) rfl
  have hG4 := grown_set (grown_set (grown_set (grown_refl W3 (some (w.heap.size + 1))) 0 (.int .i64 0)) 1 (.int .i64 0)) 2 (.int .i64 0)
  refine ⟨keep_blk h6.1 hG4 (by omega), hF4, below_over (below_over hb h6.2 (Nat.le_refl _)) hG4 (by omega), ?_⟩
  exact Kd.R_lower (Kd.R_mono (Kd.R_step hR3 (fun k hk1 hk2 => hG4.block k hk2 (fun e => by cases e; have := hk1.2.1; omega))) (fun _ _ => trivial)) (by omega)
theorem start_blk (w w1 : World) (hb : Below ((w.alloc (.cells zE6 26)).alloc (.cells (fltC (0, 0, 0)) 29)).heap.size ((w.alloc (.cells zE6 26)).alloc (.cells (fltC (0, 0, 0)) 29)) w1) :
    w1.heap[w.heap.size]? = some (.cells zE6 26 (0, 0)) ∧ w1.heap[w.heap.size + 1]? = some (.cells (fltC (0, 0, 0)) 29 (0, 0)) ∧ Below w.heap.size w w1 :=
  ⟨(hb.block _ (by rw [two_size]; omega)).trans ((below_alloc (Below.refl _ (w.alloc (.cells zE6 26))) _).block _ (heap_lt' (NewB.alloc w zE6 26).1) |>.trans (NewB.alloc w zE6 26).1),
   (hb.block _ (by rw [two_size]; omega)).trans (two_new w (.cells zE6 26) (fltC (0, 0, 0)) 29), (below_two w _ _).trans (hb.mono (below_two w _ _).size)⟩
section
variable {w : World} {s : ByteArray} {l : List Tk}
set_option maxRecDepth 100000 in
theorem Expr_bad (hs : s.size ≤ 65536) (hP : PW w) (hl : lexAll s = (l, none)) (k : Nat) (r : List Fp.Key) (h : Fp.expr k 1 (ks l 0) = some (.bad r)) :
    Calls Tryd.prog 7 #[.string s] w (ExprR w zE0 (14, Fp.posOf s l r)) := by
  have hmf : ∀ (fn : Fn) (first cap : Array Value) (w : World), (Instr.makeFunc fn first cap).run Tryd.prog w = .ok (.func fn first cap) w := fun _ _ _ _ => rfl
  have hB0 := below_two w (.cells zE6 26) (.cells (fltC (0, 0, 0)) 29)
  have hBg := begin_ok s _ hs (hP.keysB hB0) (by rw [hl])
  rw [hl] at hBg
  go_enter_defers Tryd.func7, Tryd.ntmps7
  go_wp2_with (first
    | (go_at_call 17; (with_reducible refine hBg.mono ?_); rintro e w1 ⟨g, A, c, rfl, hg, hb, hp⟩; obtain ⟨hZ, hF, hB⟩ := start_blk w w1 hb; have hv := (Pv.of hP).below hB; rw [two_size] at hg; have HZ := Hd.mk hZ; have HF := Hd.mk hF; have HB := Hd.mk hB; clear hZ hF hB hb)
    | (go_at_call 18; (with_reducible refine ((spec_all (by omega) k).expr1 w1 0 _ hp hv h).mono ?_); rintro e w2 ⟨hg2, i', hr, hi', rfl⟩)
    | fail)
  rw [pos_now s l i' hi']
  refine door_bad w w2 (14, _, _) (by show ¬ (14 : Int) = 0; omega) _ _ _ _ _ _ _ _ _ _ _ _ _ _ _ _ _ rfl (keep_blk HZ.out hg2 (by omega)) (keep_blk HF.out hg2 (by omega)) (HB.out.trans (below_of_grown hg2 HB.out.size (by omega)))
set_option maxRecDepth 100000 in
theorem Expr_end (hs : s.size ≤ 65536) (hP : PW w) (hl : lexAll s = (l, none)) (k : Nat) (x : SE) (r : List Fp.Key) (h : Fp.expr k 1 (ks l 0) = some (.ok x r)) (hr0 : ¬ r = []) :
    Calls Tryd.prog 7 #[.string s] w (ExprR w zE0 (14, Fp.posOf s l r)) := by
  have hmf : ∀ (fn : Fn) (first cap : Array Value) (w : World), (Instr.makeFunc fn first cap).run Tryd.prog w = .ok (.func fn first cap) w := fun _ _ _ _ => rfl
  have hB0 := below_two w (.cells zE6 26) (.cells (fltC (0, 0, 0)) 29)
  have hBg := begin_ok s _ hs (hP.keysB hB0) (by rw [hl])
  rw [hl] at hBg
  go_enter_defers Tryd.func7, Tryd.ntmps7
  go_wp2_with (first
    | (go_at_call 17; (with_reducible refine hBg.mono ?_); rintro e w1 ⟨g, A, c, rfl, hg, hb, hp⟩; obtain ⟨hZ, hF, hB⟩ := start_blk w w1 hb; have hv := (Pv.of hP).below hB; rw [two_size] at hg; have HZ := Hd.mk hZ; have HF := Hd.mk hF; have HB := Hd.mk hB; clear hZ hF hB hb)
    | (go_at_call 18; (with_reducible refine ((spec_all (by omega) k).expr1 w1 0 _ hp hv h).mono ?_); rintro e w2 ⟨hg2, i', v, hr, hp2, rfl, A5, c5, rfl, hR⟩; have hba := below_alloc (Below.refl w2.heap.size w2) (.cells (exC x A5 c5) 26); have hp3 := hp2.below hba; have hE := (NewB.alloc w2 (exC x A5 c5) 26).1; have HR := Hd.mk (Kd.R_below hR hba); have HG := Hd.mk (grown_below hg2 hba); have hz := hp2.lt; have HE := Hd.mk hE; clear hR hE hba hg2)
    | (go_at_call 19; (with_reducible refine (end_bad hp3 (lt_left hr hr0)).mono ?_); rintro e w4 ⟨rfl, hb4⟩)
    | fail)
  have hi' := hp2.pos
  rw [pos_now s l i' hi']
  exact door_bad w w4 (14, _, _) (by show ¬ (14 : Int) = 0; omega) _ _ _ _ _ _ _ _ _ _ _ _ _ _ _ _ _ rfl (keep_blk (keep_blk HZ.out HG.out (by omega)) (grown_of_below hb4 (some g)) (by omega)) (keep_blk (keep_blk HF.out HG.out (by omega)) (grown_of_below hb4 (some g)) (by omega)) (HB.out.trans (below_trans (below_of_grown HG.out HB.out.size (by omega)) (Nat.le_trans HB.out.size HG.out.size) hb4))
def chk (x : SE) : Int := A.checkN [.ex x]
theorem check_tree {w w4 : World} {g Bq : Nat} {x : SE} {A5 : Option Addr} {c5 : Nat} (hP : PW w) (hb : Below w.heap.size w w4) (hR : Kd.R kE 26 w4 Bq (fun k => k ≠ g) (.slice A5 x.f5.length c5) x.f5) (hsz : A.sizeE x ≤ 65536) (hok : A.okE x = true) :
    Calls Tryd.prog 21 #[.agg (exC x A5 c5)] w4 fun r w' => r = .returned (.int .i64 (chk x)) ∧ Below w4.heap.size w4 w' := by
  obtain ⟨A', c', he, hl, hC⟩ := Kd.R_reads hR
  simp only [Value.slice.injEq] at he
  obtain ⟨rfl, _, rfl⟩ := he
  exact A.checkExpr_any x A5 c5 w4 (hP.keysB hb) hC hl (by show A.sizeE x < _; omega) (by show A.deepE x < _; have := Fp.deep_size x; omega) (A.ok_allE x hok)
set_option maxRecDepth 100000 in
theorem Expr_judge (hs : s.size ≤ 65536) (hP : PW w) (hl : lexAll s = (l, none)) (k : Nat) (x : SE) (h : Fp.expr k 1 (ks l 0) = some (.ok x [])) (hsz : A.sizeE x ≤ 65536) (hok : A.okE x = true) (hc : ¬ chk x = 0) (E : Int) (hE : (if chk x = 3 then 3 else 14) = E) :
    Calls Tryd.prog 7 #[.string s] w (ExprR w zE0 (E, 0, 0)) := by
  have hE0 : ¬ E = 0 := by subst hE; split <;> omega
  have hJ : ∀ W : World, Calls Tryd.prog 20 #[.int .i64 (chk x)] W fun e w' => e = .panicked [{ v := thrownF (E, 0, 0), recovered := false }] ∧ W = w' := fun W => by
    have := judge_bad (chk x) hc W
    rw [hE] at this
    exact this
  have HJ := Hd.mk hJ
  clear hJ hE
  have hmf : ∀ (fn : Fn) (first cap : Array Value) (w : World), (Instr.makeFunc fn first cap).run Tryd.prog w = .ok (.func fn first cap) w := fun _ _ _ _ => rfl
  have hB0 := below_two w (.cells zE6 26) (.cells (fltC (0, 0, 0)) 29)
  have hBg := begin_ok s _ hs (hP.keysB hB0) (by rw [hl])
  rw [hl] at hBg
  go_enter_defers Tryd.func7, Tryd.ntmps7
  go_wp2_with (first
    | (go_at_call 17; (with_reducible refine hBg.mono ?_); rintro e w1 ⟨g, A, c, rfl, hg, hb, hp⟩; obtain ⟨hZ, hF, hB⟩ := start_blk w w1 hb; have hv := (Pv.of hP).below hB; rw [two_size] at hg; have HZ := Hd.mk hZ; have HF := Hd.mk hF; have HB := Hd.mk hB; clear hZ hF hB hb)
    | (go_at_call 18; (with_reducible refine ((spec_all (by omega) k).expr1 w1 0 _ hp hv h).mono ?_); rintro e w2 ⟨hg2, i', v, hr, hp2, rfl, A5, c5, rfl, hR⟩; have hba := below_alloc (Below.refl w2.heap.size w2) (.cells (exC x A5 c5) 26); have hp3 := hp2.below hba; have hE := (NewB.alloc w2 (exC x A5 c5) 26).1; have HR := Hd.mk (Kd.R_below hR hba); have HG := Hd.mk (grown_below hg2 hba); have hz := hp2.lt; have HE := Hd.mk hE; clear hR hE hba hg2)
    | (go_at_call 19; (with_reducible refine (end_ok hp3 (ge_left hr)).mono ?_); rintro e w4 ⟨rfl, hb4⟩; have hE4 := keep_blk HE.out (grown_of_below hb4 (some g)) (by omega); have HR4 := Hd.mk (Kd.R_below HR.out hb4); have HB4 := Hd.mk (HB.out.trans (below_trans (below_of_grown HG.out HB.out.size (by omega)) (Nat.le_trans HB.out.size HG.out.size) hb4)); have hZ4 := keep_blk (keep_blk HZ.out HG.out (by omega)) (grown_of_below hb4 (some g)) (by omega); have hF4 := keep_blk (keep_blk HF.out HG.out (by omega)) (grown_of_below hb4 (some g)) (by omega); obtain ⟨q0, q1, q2, q3, q4, q5⟩ := cells6 hE4; have HZ4 := Hd.mk hZ4; have HF4 := Hd.mk hF4; have HE4 := Hd.mk hE4; clear hZ4 hF4 hE4)
    | (go_at_call 21; have hCk := check_tree hP HB4.out HR4.out hsz hok; (with_reducible refine hCk.mono ?_); rintro e w5 ⟨rfl, hb5⟩; have hE5 := keep_blk HE4.out (grown_of_below hb5 (some g)) (by have := heap_lt' HE4.out; omega); have HR5 := Hd.mk (Kd.R_below HR4.out hb5); have HB5 := Hd.mk (below_trans HB4.out HB4.out.size hb5); have hZ5 := keep_blk HZ4.out (grown_of_below hb5 (some g)) (by omega); have hF5 := keep_blk HF4.out (grown_of_below hb5 (some g)) (by omega); obtain ⟨y0, y1, y2, y3, y4, y5⟩ := cells6 hE5; obtain ⟨p0, p1, p2, p3, p4, p5⟩ := cells6 hZ5; obtain ⟨f0, f1, f2, f3, f4, f5⟩ := froz6 hZ5; obtain ⟨⟨t0, t1, t2⟩, hfz⟩ := cellsF hF5; have z0 := hfz 0; have z1 := hfz 1; have z2 := hfz 2; have hl5 := heap_lt' hF5; have HZ5 := Hd.mk hZ5; have HF5 := Hd.mk hF5; clear hfz hZ5 hF5 hE5)
    | (go_at_call 20; (with_reducible refine (HJ.out w5).mono ?_); rintro e w6 ⟨rfl, rfl⟩)
    | fail)
  exact door_bad w w5 (E, 0, 0) hE0 _ _ _ _ _ _ _ _ _ _ _ _ _ _ _ _ _ rfl HZ5.out HF5.out HB5.out
set_option maxRecDepth 100000 in
theorem Expr_ok (hs : s.size ≤ 65536) (hP : PW w) (hl : lexAll s = (l, none)) (k : Nat) (x : SE) (h : Fp.expr k 1 (ks l 0) = some (.ok x [])) (hsz : A.sizeE x ≤ 65536) (hok : A.okE x = true) (hc : chk x = 0) :
    Calls Tryd.prog 7 #[.string s] w (ExprR w x (0, 0, 0)) := by
  have hmf : ∀ (fn : Fn) (first cap : Array Value) (w : World), (Instr.makeFunc fn first cap).run Tryd.prog w = .ok (.func fn first cap) w := fun _ _ _ _ => rfl
  have hB0 := below_two w (.cells zE6 26) (.cells (fltC (0, 0, 0)) 29)
  have hBg := begin_ok s _ hs (hP.keysB hB0) (by rw [hl])
  rw [hl] at hBg
  go_enter_defers Tryd.func7, Tryd.ntmps7
  go_wp2_with (first
    | (go_at_call 17; (with_reducible refine hBg.mono ?_); rintro e w1 ⟨g, A, c, rfl, hg, hb, hp⟩; obtain ⟨hZ, hF, hB⟩ := start_blk w w1 hb; have hv := (Pv.of hP).below hB; rw [two_size] at hg; have HZ := Hd.mk hZ; have HF := Hd.mk hF; have HB := Hd.mk hB; clear hZ hF hB hb)
    | (go_at_call 18; (with_reducible refine ((spec_all (by omega) k).expr1 w1 0 _ hp hv h).mono ?_); rintro e w2 ⟨hg2, i', v, hr, hp2, rfl, A5, c5, rfl, hR⟩; have hba := below_alloc (Below.refl w2.heap.size w2) (.cells (exC x A5 c5) 26); have hp3 := hp2.below hba; have hE := (NewB.alloc w2 (exC x A5 c5) 26).1; have HR := Hd.mk (Kd.R_below hR hba); have HG := Hd.mk (grown_below hg2 hba); have hz := hp2.lt; have HE := Hd.mk hE; clear hR hE hba hg2)
    | (go_at_call 19; (with_reducible refine (end_ok hp3 (ge_left hr)).mono ?_); rintro e w4 ⟨rfl, hb4⟩; have hE4 := keep_blk HE.out (grown_of_below hb4 (some g)) (by omega); have HR4 := Hd.mk (Kd.R_below HR.out hb4); have HB4 := Hd.mk (HB.out.trans (below_trans (below_of_grown HG.out HB.out.size (by omega)) (Nat.le_trans HB.out.size HG.out.size) hb4)); have hZ4 := keep_blk (keep_blk HZ.out HG.out (by omega)) (grown_of_below hb4 (some g)) (by omega); have hF4 := keep_blk (keep_blk HF.out HG.out (by omega)) (grown_of_below hb4 (some g)) (by omega); obtain ⟨q0, q1, q2, q3, q4, q5⟩ := cells6 hE4; have HZ4 := Hd.mk hZ4; have HF4 := Hd.mk hF4; have HE4 := Hd.mk hE4; clear hZ4 hF4 hE4)
    | (go_at_call 21; have hCk := check_tree hP HB4.out HR4.out hsz hok; rw [hc] at hCk; (with_reducible refine hCk.mono ?_); rintro e w5 ⟨rfl, hb5⟩; have hE5 := keep_blk HE4.out (grown_of_below hb5 (some g)) (by have := heap_lt' HE4.out; omega); have HR5 := Hd.mk (Kd.R_below HR4.out hb5); have HB5 := Hd.mk (below_trans HB4.out HB4.out.size hb5); have hZ5 := keep_blk HZ4.out (grown_of_below hb5 (some g)) (by omega); have hF5 := keep_blk HF4.out (grown_of_below hb5 (some g)) (by omega); obtain ⟨y0, y1, y2, y3, y4, y5⟩ := cells6 hE5; obtain ⟨p0, p1, p2, p3, p4, p5⟩ := cells6 hZ5; obtain ⟨f0, f1, f2, f3, f4, f5⟩ := froz6 hZ5; obtain ⟨⟨t0, t1, t2⟩, hfz⟩ := cellsF hF5; have z0 := hfz 0; have z1 := hfz 1; have z2 := hfz 2; have hl5 := heap_lt' hF5; have HZ5 := Hd.mk hZ5; have HF5 := Hd.mk hF5; clear hfz hZ5 hF5 hE5)
    | (go_at_call 20; (with_reducible refine (judge_ok w5).mono ?_); rintro e w6 ⟨rfl, rfl⟩)
    | fail)
  have hO := fin_out HZ5.out HF5.out HR5.out (by have := hp.lt; omega) HB5.out rfl
  exact door_ok w _ x A5 c5 _ _ _ _ _ _ _ _ _ _ _ _ _ _ _ _ _ rfl hO.1 hO.2.1 hO.2.2.1 hO.2.2.2
end
end Go.Proofs.YtnjnadlgndjnbaaDoor.Pk
end

section
set_option linter.unusedVariables false
set_option linter.unusedSimpArgs false
namespace Go.Proofs.YtnjnadlgndjnbaaDoor.Pk
open Go.RowKit Go.Proofs.YtnjnadlgndjnbaaDoorW.PrintWords Go.Proofs.YtnjnadlgndjnbaaDoorW.PrintLast Go.Proofs.YtnjnadlgndjnbaaDoorW.PrintMore Go.Proofs.YtnjnadlgndjnbaaDoor.Lx
theorem toks_short (s : ByteArray) (hs : s.size ≤ 65536) {l : List Tk} (h : lexAll s = (l, none)) : l.length ≤ 65536 ∧ Fp.Short (Fp.keys l) := by
  have hsz := Q.toks_size s (by omega)
  have ht : toks (lexAll s) = l := by unfold toks; rw [h]
  rw [ht] at hsz
  refine ⟨by omega, fun x hx => ?_⟩
  unfold Fp.keys at hx
  obtain ⟨t, hm, rfl⟩ := List.mem_map.1 hx
  have : t.text.size ≤ Q.textSum l := by
    unfold Q.textSum
    clear hsz ht h hx
    induction l with
    | nil => cases hm
    | cons y m ih =>
      simp only [List.map_cons, List.sum_cons]
      rcases List.mem_cons.1 hm with rfl | hm
      · omega
      · have := ih hm; omega
  show t.text.data.toList.length ≤ 65536
  simp only [Array.length_toList]
  show t.text.size ≤ 65536
  omega
theorem Expr_any (s : ByteArray) (w : World) (hs : s.size ≤ 65536) (hP : PW w) : Calls Tryd.prog 7 #[.string s] w (ExprR w (Fp.parseRes s).1 (Fp.parseRes s).2) := by

  cases hl : lexAll s with
  | mk l o =>
  unfold Fp.parseRes
  rw [hl]
  cases o with
  | some lc => exact Expr_lex s w hs hP lc (by rw [hl])
  | none =>
    obtain ⟨h1, h2⟩ := toks_short s hs hl
    simp only
    cases hp : Fp.parseK (Fp.keys l) with
    | none => exact absurd hp (Fp.parseK_some _)
    | some r =>
      cases r with
      | bad r => exact Expr_bad hs hP hl _ r hp
      | ok x r =>
        have hsz : A.sizeE x ≤ 65536 := by
          have := (Fp.lens _).1 _ _ _ _ hp
          rw [keys_ks, ks_len] at this
          omega
        have hok := ((Fp.oks _).1 _ _ _ _ h2 hp).1
        cases r with
        | cons k r => exact Expr_end hs hP hl _ x (k :: r) hp (by simp)
        | nil =>
          show Calls Tryd.prog 7 #[.string s] w (ExprR w (Fp.judged x).1 (Fp.judged x).2)
          unfold Fp.judged
          by_cases hc : A.checkN [.ex x] = 0
          · rw [if_pos hc]; exact Expr_ok hs hP hl _ x hp hsz hok hc
          · rw [if_neg hc]
            by_cases h3 : A.checkN [.ex x] = 3
            · rw [if_pos h3]; exact Expr_judge hs hP hl _ x hp hsz hok hc 3 (if_pos h3)
            · rw [if_neg h3]; exact Expr_judge hs hP hl _ x hp hsz hok hc 14 (if_neg h3)
end Go.Proofs.YtnjnadlgndjnbaaDoor.Pk
end
