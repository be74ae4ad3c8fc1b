/- Package ast: (node).deep. -/
import Derived.Test.YtgkhpecllhiidaaDoorAd
set_option linter.unusedVariables false
set_option linter.unusedSimpArgs false
namespace Go.Proofs.YtgkhpecllhiidaaDoor.A
open Go.RowKit Go.Shelf Go.Proofs.YtgkhpecllhiidaaDoor.As Go.Proofs.YtgkhpecllhiidaaDoorW.PrintWords Go.Proofs.YtgkhpecllhiidaaDoorW.PrintLast Go.Proofs.YtgkhpecllhiidaaDoorW.PrintMore
attribute [local go_sem] Oper.semAt_some

theorem foldl_max (l : List Nd) : ∀ c : Nat, l.foldl (fun c x => max c x.deep) c = max c (deeps l) := by
  unfold deeps
  induction l with
  | nil => intro c; simp
  | cons x l ih => intro c; rw [List.foldl_cons, List.foldl_cons, ih, ih (max 0 x.deep)]; omega
theorem deeps_append (a b : List Nd) : deeps (a ++ b) = max (deeps a) (deeps b) := by
  have := foldl_max b (deeps a)
  rw [← this]; unfold deeps; rw [List.foldl_append]
theorem deeps_cons (x : Nd) (l : List Nd) : deeps (x :: l) = max x.deep (deeps l) := by
  have := foldl_max l x.deep
  rw [← this]; unfold deeps; rw [List.foldl_cons]; congr 1
theorem deeps_ex (l : List SE) : deeps (l.map .ex) = deepEs l := by
  induction l with
  | nil => rfl
  | cons e l ih => rw [List.map_cons, deeps_cons, deepEs, ih]; rfl
theorem deeps_st (l : List SS) : deeps (l.map .st) = deepSs l := by
  induction l with
  | nil => rfl
  | cons e l ih => rw [List.map_cons, deeps_cons, deepSs, ih]; rfl
theorem Nd.deep_eq (n : Nd) : n.deep = 1 + deeps n.kids := by
  cases n with
  | ex e => obtain ⟨_, _, _, _, _, l⟩ := e; show deepE _ = _; rw [deepE]; unfold Nd.kids; rw [deeps_ex]
  | st s => obtain ⟨_, _, _, _, _, _, i, x, t, e⟩ := s; show deepS _ = _; rw [deepS]; unfold Nd.kids; simp only [deeps_append, deeps_ex, deeps_st]; omega
/-- A maximum as the code reckons it. -/
def wdeep {G : Nd → Prop} {w : World} (l : List (At w G)) : Int := l.foldl (fun s y => max s (y.1.2.deep : Int)) 0
theorem wdeep_snoc {G : Nd → Prop} {w : World} (l : List (At w G)) (y : At w G) : wdeep (l ++ [y]) = max (wdeep l) (y.1.2.deep : Int) := by unfold wdeep; rw [List.foldl_append]; rfl
theorem wdeep_from {G : Nd → Prop} {w : World} (l : List (At w G)) : ∀ (c : Nat), l.foldl (fun s y => max s (y.1.2.deep : Int)) (c : Int) = (((l.map (·.1.2)).foldl (fun c x => max c x.deep) c : Nat) : Int) := by
  induction l with
  | nil => intro c; rfl
  | cons y l ih =>
    intro c
    have hw : max (c : Int) (y.1.2.deep : Int) = ((max c y.1.2.deep : Nat) : Int) := by omega
    rw [List.foldl_cons, hw, ih, List.map_cons, List.foldl_cons]
theorem wdeep_eq {G : Nd → Prop} {w : World} (l : List (At w G)) : wdeep l = (deeps (l.map (·.1.2)) : Int) := wdeep_from l 0
set_option maxRecDepth 100000 in
set_option maxHeartbeats 2000000 in
theorem deep_in : ∀ (D : Nat) (x : Nd) (v : Value) (w : World), x.deep ≤ D → x.deep < 4611686018427387904 → NdAt w v x → Calls Tryd.prog 62 #[v] w fun e w' => e = .returned (.int .i64 x.deep) ∧ Below w.heap.size w w' := by
  intro D; induction D with
  | zero => intro x v w h; cases x with
    | ex e => obtain ⟨_, _, _, _, _, l⟩ := e; have : deepE _ ≤ 0 := h; rw [deepE] at this; omega
    | st s => obtain ⟨_, _, _, _, _, _, i, x, t, e⟩ := s; have : deepS _ ≤ 0 := h; rw [deepS] at this; omega
  | succ D ih =>
    intro x v w hD hs hN
    obtain ⟨pp, qq, hv⟩ := hN.agg
    obtain ⟨p, hp⟩ : ∃ p, Value.pointer pp = p := ⟨_, rfl⟩
    obtain ⟨q, hq⟩ : ∃ q, Value.pointer qq = q := ⟨_, rfl⟩
    rw [hp, hq] at hv
    subst hv
    clear hp hq
    refine (callsIn_wide (n := 9)).1 ?_
    refine callsIn_of_wp_marks Tryd.func62 rfl trivial ?_ rfl
    simp only [Tryd.ntmps62, List.size_toArray, List.length_cons, List.length_nil, Nat.reduceAdd, Nat.reduceSub, Array.replicate_succ, Array.replicate_zero, List.push_toArray, List.append_toArray, List.nil_append, List.cons_append]
    gi_wp2_with (refine ⟨trivial, ?_⟩; gi_at_call 105; refine (children_any _ _ _ _).mono ?_; rintro e w' ⟨rfl, rfl⟩)
    obtain ⟨W0, hW0⟩ : ∃ W0, (((w.alloc (.cells #[p, q] 85)).alloc (.cells #[.int .i64 0] 3)).alloc (.cells #[p, q] 85)) = W0 := ⟨_, rfl⟩
    have hsz : W0.heap.size = w.heap.size + 3 := by rw [← hW0]; simp
    have hw0 : Below w.heap.size w W0 := by rw [← hW0]; exact (((Below.refl _ w).alloc (Nat.le_refl _) _).alloc (by simp <;> omega) _).alloc (by simp <;> omega) _
    have hn2 := cells_new2 ((w.alloc (.cells #[p, q] 85)).alloc (.cells #[.int .i64 0] 3)) p q 85
    have hbx : Boxed W0 (w.heap.size + 1) 3 (.int .i64 0) := by
      rw [← hW0]
      exact (Below.heap_alloc _ _ _ (by simp)).trans (by have := World.alloc_heap_new (w.alloc (.cells #[p, q] 85)) (.cells #[.int .i64 0] 3); rwa [World.size_alloc] at this)
    simp only [World.size_alloc] at hn2
    rw [hW0] at hn2 ⊢
    have hkid : ∀ y ∈ x.kids, y.deep ≤ D ∧ y.deep < 4611686018427387904 := fun y hy => ⟨by have := Nd.deep_kids hy; omega, by have := Nd.deep_kids hy; omega⟩
    obtain ⟨xs, hxs, hseq⟩ := seq_stops 8 (fun y => y.deep ≤ D ∧ y.deep < 4611686018427387904) x hkid (.agg #[p, q]) p q w W0 (w.heap.size + 1) (w.heap.size + 1 + 1) rfl hN hw0 (by omega) (by omega) (by omega) (by omega) hn2.1 hn2.2
    have hsum : wdeep xs = ((x.deep - 1 : Nat) : Int) := by rw [wdeep_eq, hxs]; have := x.deep_eq; congr 1; omega
    refine wpIn_rangeFunc_ownH (F := Fence.wide) rfl (by omega) (gf := 125) (lb := #[.pointer (some ⟨w.heap.size + 1 + 1, 0, none⟩)]) rfl trivial (enters_of Tryd.func125 (by kernel_rfl) rfl)
      hseq KpB.trans (fun W l o o' _ h hc _ => KpB.putObj W l o o' h hc) (Below.refl _ _) (fun _ => rfl)
      (fun pre W => Boxed W (w.heap.size + 1) 3 (.int .i64 (wdeep pre)) ∧ Below w.heap.size w W ∧ W0.heap.size ≤ W.heap.size) (fun _ _ _ => False)
      (OwnFrom.and (Own.from (boxed_own _ _ _) _) (OwnFrom.and (ownFrom_below (Nat.le_refl _) (by omega)) (fun _ _ _ _ hs hg _ => Nat.le_trans hs hg.size))) (fun _ _ _ _ _ h _ _ => h) ⟨hbx, hw0, Nat.le_refl _⟩
      (fun y a' W => ∃ Bx py qy, y.1.1 = .agg #[.pointer py, .pointer qy] ∧ W.heap[Bx]? = some (.cells #[.pointer py, .pointer qy] 85 (0, 0)) ∧ W0.heap.size ≤ Bx ∧
        a' = { tmps := #[.agg #[p, q], .pointer (some ⟨w.heap.size, 0, none⟩), .int .i64 0, .pointer (some ⟨w.heap.size + 1, 0, none⟩), .pointer (some ⟨Bx, 0, none⟩), .agg #[p, q], .func (.func 125) #[] #[.pointer (some ⟨w.heap.size + 1 + 1, 0, none⟩)], y.1.1, undef, undef, undef, undef, undef, undef], defers := [] })
      (fun y a' s W W' row hs hg hr => by
        obtain ⟨Bx, py, qy, h1, h2, h3, h4⟩ := hs
        exact ⟨Bx, py, qy, h1, (hg.block Bx (Array.getElem?_eq_some_iff.1 h2).1 (fun e => by obtain ⟨_, o, ho, hc⟩ := hr Bx e.symm; rw [h2] at ho; cases ho; cases hc)).trans h2, h3, h4⟩) ?assign ?body ?done ?stop
    case assign =>
      rintro l pre y W K ⟨hi1, hi2, hi3⟩ hK
      obtain ⟨py, qy, hy⟩ := y.2.1.agg
      rw [hy]
      gi_wp2
      exact hK _ _ ((KeepsOthers.alloc _ _).from _) (KpB.of_below ((Below.refl _ W).alloc (Nat.le_refl _) _)) ⟨hi1.alloc _, hi2.trans (((Below.refl _ W).alloc (Nat.le_refl _) _).mono hi2.size), by simp; omega⟩ ⟨W.heap.size, py, qy, hy, World.alloc_heap_new _ _, hi3, by rw [hy]⟩
    case body =>
      rintro l pre y a' W hl ⟨r, hr⟩ ⟨hi1, hi2, hi3⟩ ⟨Bx, py, qy, hy, hx, hBx, rfl⟩ hlt
      have hc := hi1.cell
      have hf := hi1.frozen
      have hx0 : W.cell? ⟨Bx, 0, none⟩ = some (.pointer py) := by unfold World.cell?; rw [hx]; rfl
      have hx1 : W.cell? ⟨Bx, 1, none⟩ = some (.pointer qy) := by unfold World.cell?; rw [hx]; rfl
      have hmx : Tryd.prog.follows .mixedOrders = true := by kernel_rfl
      rw [hy]
      gi_wp2
      gi_region_with_o (refine ⟨trivial, ?_⟩; gi_at_call 62; refine (CallsIn.inRound l (callsIn_wide.2 (ih y.1.2 _ _ y.2.2.1 y.2.2.2 (by rw [← hy]; exact (y.2.1.below hi2).below ⟨rfl, rfl, rfl, Nat.le_refl _, fun _ _ => rfl⟩)))).mono ?_; rintro e W3 ⟨rfl, hb3⟩; have hc3 : W3.cell? ⟨w.heap.size + 1, 0, none⟩ = some (.int .i64 (wdeep pre)) := (hb3.cell (p := ⟨w.heap.size + 1, 0, none⟩) hi1.lt).trans hc; have hf3 : W3.frozen? ⟨w.heap.size + 1, 0, none⟩ = false := (hb3.frozen (p := ⟨w.heap.size + 1, 0, none⟩) hi1.lt).trans hf; have HB3 := Lx.Hd.mk hb3; clear hb3)
      all_goals gi_wp2
      all_goals
        have hB : Below W.heap.size W W3 := Below.trans (b := W.drew) ⟨rfl, rfl, rfl, Nat.le_refl _, fun _ _ => rfl⟩ HB3.out
        refine ⟨((keeps_of_below hB).trans (KeepsOthers.setCell _ _ _)).from _, (KpB.of_below hB).trans (KpB.setB _ _ _), ?_, ?_, ?_⟩
        · rw [wdeep_snoc]
          first
            | (rw [show max (wdeep pre) (y.1.2.deep : Int) = (y.1.2.deep : Int) by omega]; exact blk_put (cs := #[.int .i64 (wdeep pre)]) ((hB.block _ hi1.lt).trans hi1) 0 _ rfl)
            | (rw [show max (wdeep pre) (y.1.2.deep : Int) = wdeep pre by omega]; exact blk_put (cs := #[.int .i64 (wdeep pre)]) ((hB.block _ hi1.lt).trans hi1) 0 _ rfl)
        · exact (hi2.trans (hB.mono hi2.size)).setCell (p := ⟨w.heap.size + 1, 0, none⟩) (Nat.le_succ _) _
        · have := hB.size; simp; omega
    case done =>
      rintro D' ys W hD' rfl ⟨h1, h2, h3⟩ hK
      have hc := h1.cell
      rw [hsum] at hc
      gi_wp2
      refine ⟨by simp, .inl ⟨_, _, rfl, run_takeDeferred hK, ?_⟩⟩
      refine ⟨_, results_tmp rfl _ _ _, ?_, h2.trans (belowK_b (w := w) (Nat.le_refl _) W D' _ _ (by omega) hK rfl rfl)⟩
      show Ending.returned (.int .i64 (((x.deep - 1 : Nat) : Int) + 1)) = _
      exact Lx.ret_int (by have := x.deep_eq; omega)
    case stop =>
      intro D c pre W _ _ h _
      exact h.elim
end Go.Proofs.YtgkhpecllhiidaaDoor.A
