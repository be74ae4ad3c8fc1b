/- Package ast: (node).right, over what expr and stmt say. -/
import Derived.Test.YtnjnadlgndjnbaaDoorYAc
set_option linter.unusedVariables false
set_option linter.unusedSimpArgs false
namespace Go.Proofs.YtnjnadlgndjnbaaDoor.A
open Go.RowKit Go.Shelf Go.Proofs.YtnjnadlgndjnbaaDoor.As Go.Proofs.YtnjnadlgndjnbaaDoorW.PrintWords Go.Proofs.YtnjnadlgndjnbaaDoorW.PrintLast Go.Proofs.YtnjnadlgndjnbaaDoorW.PrintMore
attribute [local go_sem] Oper.semAt_some
mutual
def rightE (ok : SE → Bool) : SE → Bool
  | ⟨a, b, c, d, n, l⟩ => ok ⟨a, b, c, d, n, l⟩ && rightEs ok l
def rightEs (ok : SE → Bool) : List SE → Bool
  | [] => true
  | e :: l => rightE ok e && rightEs ok l
end
mutual
def rightS (ok : SE → Bool) (oks : SS → Bool) : SS → Bool
  | ⟨a, b, c, d, n, m, i, x, t, e⟩ => oks ⟨a, b, c, d, n, m, i, x, t, e⟩ && (rightEs ok i && rightEs ok x && rightSs ok oks t && rightSs ok oks e)
def rightSs (ok : SE → Bool) (oks : SS → Bool) : List SS → Bool
  | [] => true
  | s :: l => rightS ok oks s && rightSs ok oks l
end
def Nd.own (ok : SE → Bool) (oks : SS → Bool) : Nd → Bool
  | .ex e => ok e
  | .st s => oks s
def Nd.right (ok : SE → Bool) (oks : SS → Bool) : Nd → Bool
  | .ex e => rightE ok e
  | .st s => rightS ok oks s
theorem right_ex (ok : SE → Bool) (oks : SS → Bool) (l : List SE) : (l.map Nd.ex).all (Nd.right ok oks) = rightEs ok l := by
  induction l with
  | nil => rfl
  | cons e l ih => rw [List.map_cons, List.all_cons, rightEs, ih]; rfl
theorem right_st (ok : SE → Bool) (oks : SS → Bool) (l : List SS) : (l.map Nd.st).all (Nd.right ok oks) = rightSs ok oks l := by
  induction l with
  | nil => rfl
  | cons e l ih => rw [List.map_cons, List.all_cons, rightSs, ih]; rfl
theorem Nd.right_kids (ok : SE → Bool) (oks : SS → Bool) (n : Nd) : n.right ok oks = (n.own ok oks && n.kids.all (Nd.right ok oks)) := by
  cases n with
  | ex e => obtain ⟨_, _, _, _, _, l⟩ := e; show rightE ok _ = _; rw [rightE]; unfold Nd.kids; rw [right_ex]; rfl
  | st s => obtain ⟨_, _, _, _, _, _, i, x, t, e⟩ := s; show rightS ok oks _ = _; rw [rightS]; unfold Nd.kids; rw [List.all_append, List.all_append, List.all_append, right_ex, right_ex, right_st, right_st]; rfl
inductive AllN (p : Nd → Prop) : Nd → Prop
  | mk (x : Nd) (h : p x) (k : ∀ y ∈ x.kids, AllN p y) : AllN p x
theorem AllN.own {p : Nd → Prop} {x : Nd} (h : AllN p x) : p x := by cases h; assumption
theorem AllN.kid {p : Nd → Prop} {x y : Nd} (h : AllN p x) (hy : y ∈ x.kids) : AllN p y := by cases h with | mk _ _ k => exact k y hy
structure Owns (ok : SE → Bool) (oks : SS → Bool) (p : Nd → Prop) : Prop where
  ex : ∀ (a : Addr) (e : SE) (w : World), Keys w → p (.ex e) → PtAt kE w a e → Calls Tryd.prog 73 #[.pointer (some a)] w fun r w' => r = .returned (.bool (ok e)) ∧ Below w.heap.size w w'
  st : ∀ (a : Addr) (s : SS) (w : World), Keys w → p (.st s) → PtAt kS w a s → Calls Tryd.prog 74 #[.pointer (some a)] w fun r w' => r = .returned (.bool (oks s)) ∧ Below w.heap.size w w'
def allR {G : Nd → Prop} {w : World} (ok : SE → Bool) (oks : SS → Bool) (l : List (At w G)) : Bool := l.all (fun y => y.1.2.right ok oks)
theorem allR_append {G : Nd → Prop} {w : World} (ok : SE → Bool) (oks : SS → Bool) (l m : List (At w G)) : allR ok oks (l ++ m) = (allR ok oks l && allR ok oks m) := by unfold allR; rw [List.all_append]
theorem allR_snoc {G : Nd → Prop} {w : World} (ok : SE → Bool) (oks : SS → Bool) (l : List (At w G)) (y : At w G) : allR ok oks (l ++ [y]) = (allR ok oks l && y.1.2.right ok oks) := by rw [allR_append]; unfold allR; simp
set_option maxRecDepth 100000 in
set_option maxHeartbeats 4000000 in
theorem right_in (ok : SE → Bool) (oks : SS → Bool) (P : Nd → Prop) (O : Owns ok oks P) : ∀ (D : Nat) (x : Nd) (v : Value) (w : World), x.deep ≤ D → Keys w → AllN P x → NdAt w v x → Calls Tryd.prog 58 #[v] w fun e w' => e = .returned (.bool (x.right ok oks)) ∧ Below w.heap.size w w' := by
  intro D; induction D with
  | zero => intro x v w h; have := x.deep_eq; omega
  | succ D ih =>
    intro x v w hD hG hP hN
    rw [x.right_kids]
    have HNd := Lx.Hd.mk hN
    cases x with
    | ex e =>
      obtain ⟨a, rfl, hp⟩ := hN
      refine (callsIn_wide (n := 9)).1 ?_
      refine callsIn_of_wp_marks Tryd.func58 rfl trivial ?_ rfl
      simp only [Tryd.ntmps58, List.size_toArray, List.length_cons, List.length_nil, Nat.reduceAdd, Nat.reduceSub, Array.replicate_succ, Array.replicate_zero, List.push_toArray, List.append_toArray, List.nil_append, List.cons_append]
      have hE := fun W (hb : Below w.heap.size w W) => O.ex a e W (Keys.below hG hb) hP.own (hp.below hb)
      have HE := Lx.Hd.mk hE
      clear hE hp
      have hb0 : Boxed ((w.alloc (.cells #[.pointer (some a), .pointer none] 97)).alloc (.cells #[.bool false] 4)) (w.heap.size + 1) 4 (.bool false) := by have := World.alloc_heap_new (w.alloc (.cells #[.pointer (some a), .pointer none] 97)) (.cells #[.bool false] 4); rwa [World.size_alloc] at this
      have hn0 := cells_new2 w (.pointer (some a)) (.pointer none) 97
      have hB0 : Below w.heap.size w ((w.alloc (.cells #[.pointer (some a), .pointer none] 97)).alloc (.cells #[.bool false] 4)) := ((Below.refl _ w).alloc (Nat.le_refl _) _).alloc (by simp) _
      have Hb0 := Lx.Hd.mk hb0
      have Hn0 := Lx.Hd.mk (And.intro (cell_alloc_a (.cells #[.bool false] 4) hn0.1) (cell_alloc_a (.cells #[.bool false] 4) hn0.2))
      have HB0 := Lx.Hd.mk hB0
      clear hb0 hn0 hB0
      cases hok : ok e
      · refine wpIn_wide.2 ?_
        go_wp2_with (first | (go_at_call 73; refine (HE.out _ (by exact HB0.out)).mono ?_; rw [hok]; rintro e' w1 ⟨rfl, hb⟩; have hbx : Boxed w1 (w.heap.size + 1) 4 (.bool false) := (hb.block _ Hb0.out.lt).trans Hb0.out; have hc1 := hbx.cell; have hf1 := hbx.frozen; have HB1 := Lx.Hd.mk (HB0.out.trans (hb.mono HB0.out.size)); clear hb hbx))
        have hc2 := World.cell?_setCell_same' w1 ⟨w.heap.size + 1, 0, none⟩ (.bool false) (by rw [hc1]; rfl)
        refine ⟨.bool false, by simp [results, Tryd.f58, go_sem, hc2], ?_, HB1.out.setCell (p := ⟨w.heap.size + 1, 0, none⟩) (by simp) _⟩
        show Ending.returned (.bool false) = .returned (.bool (ok e && _))
        rw [hok]; rfl
      · refine wpIn_wide.2 ?_
        go_upto_region 3 with (first | (go_at_call 73; refine (HE.out _ (by exact HB0.out)).mono ?_; rw [hok]; rintro e' w1 ⟨rfl, hb⟩; have hbx : Boxed w1 (w.heap.size + 1) 4 (.bool false) := (hb.block _ Hb0.out.lt).trans Hb0.out; have hn1 := pw_cell_below hb Hn0.out.1; have hn2 := pw_cell_below hb Hn0.out.2; have Hb1 := Lx.Hd.mk hbx; have HB1 := Lx.Hd.mk (HB0.out.trans (hb.mono HB0.out.size)); clear hb hbx))
        refine (wpIn_wide (n := 9)).1 ?_
        gi_wp2_with (refine ⟨trivial, ?_⟩; gi_at_call 72; refine (children_any _ _ _ _).mono ?_; rintro e' w' ⟨rfl, rfl⟩)
        obtain ⟨W0, hW0⟩ : ∃ W0, w1.alloc (.cells #[.pointer (some a), .pointer none] 97) = W0 := ⟨_, rfl⟩
        have hsz : w1.heap.size < W0.heap.size := by rw [← hW0]; simp
        have hlt1 := Hb1.out.lt
        have hw0 : Below w.heap.size w W0 := by rw [← hW0]; exact HB1.out.trans (((Below.refl _ w1).alloc (Nat.le_refl _) _).mono HB1.out.size)
        have hn3 := cells_new2 w1 (.pointer (some a)) (.pointer none) 97
        have hbx0 : Boxed W0 (w.heap.size + 1) 4 (.bool false) := by rw [← hW0]; exact Hb1.out.alloc _
        rw [hW0] at hn3 ⊢
        have hkid : ∀ y ∈ (Nd.ex e).kids, y.deep ≤ D ∧ AllN P y := fun y hy => ⟨by have := Nd.deep_kids hy; omega, hP.kid hy⟩
        obtain ⟨xs, hxs, hseq⟩ := seq_stops 8 (fun y => y.deep ≤ D ∧ AllN P y) (Nd.ex e) hkid (.agg #[.pointer (some a), .pointer none]) (.pointer (some a)) (.pointer none) w W0 (w.heap.size + 1) w1.heap.size rfl HNd.out hw0 (by omega) (by omega) (by omega) (by omega) hn3.1 hn3.2
        have hall : (Nd.ex e).kids.all (Nd.right ok oks) = allR ok oks xs := by unfold allR; rw [← hxs, List.all_map]; rfl
        have HALL := Lx.Hd.mk hall
        clear hall hn1 hn2 hn3
        refine (wpIn_wide (n := 9)).1 ?_
        gi_wp2
        refine wpIn_rangeFunc_ownH (F := Fence.wide) rfl (by omega) (gf := 80) (lb := #[.pointer (some ⟨w1.heap.size, 0, none⟩)]) rfl trivial (enters_of Tryd.func80 (by kernel_rfl) rfl)
          hseq KpB.trans (fun W l o o' _ h hc _ => KpB.putObj W l o o' h hc) (Below.refl _ _) (fun _ => rfl)
          (fun pre W => allR ok oks pre = true ∧ Boxed W (w.heap.size + 1) 4 (.bool false) ∧ Below w.heap.size w W ∧ W0.heap.size ≤ W.heap.size)
          (fun c pre W => c = .ret ∧ allR ok oks pre = false ∧ Boxed W (w.heap.size + 1) 4 (.bool false) ∧ Below w.heap.size w W)
          (OwnFrom.and (fun _ _ _ _ hs _ _ => hs) (OwnFrom.and (Own.from (boxed_own _ _ _) _) (OwnFrom.and (ownFrom_below (Nat.le_refl _) (by omega)) (fun _ _ _ _ hs hg _ => Nat.le_trans hs hg.size))))
          (fun c => OwnFrom.and (fun _ _ _ _ hs _ _ => hs) (OwnFrom.and (fun _ _ _ _ hs _ _ => hs) (OwnFrom.and (Own.from (boxed_own _ _ _) _) (ownFrom_below (Nat.le_refl _) (by omega)))))
          ⟨rfl, hbx0, hw0, Nat.le_refl _⟩
          (fun y a' W => ∃ Bx py qy, y.1.1 = .agg #[.pointer py, .pointer qy] ∧ W.heap[Bx]? = some (.cells #[.pointer py, .pointer qy] 97 (0, 0)) ∧ W0.heap.size ≤ Bx ∧
            a' = { tmps := #[.agg #[.pointer (some a), .pointer none], .pointer (some ⟨w.heap.size, 0, none⟩), .pointer (some ⟨w.heap.size + 1, 0, none⟩), .pointer (some ⟨Bx, 0, none⟩), .pointer (some ⟨w.heap.size, 0, none⟩), .pointer (some a), .bool true, .bool true, .pointer (some ⟨w.heap.size, 0, none⟩), .pointer (some a), .bool true, .bool false, .bool false, .bool false, .pointer (some ⟨w.heap.size, 1, none⟩), .pointer none, .bool false, .bool false, undef, undef, undef, undef, .bool false, .bool false, .agg #[.pointer (some a), .pointer none], .func (.func 80) #[] #[.pointer (some ⟨w1.heap.size, 0, none⟩)], y.1.1, undef, undef, undef], defers := [] })
          (fun y a' s W W' row hs hg hr => by
            obtain ⟨Bx, py, qy, h1, h2, h3, h4⟩ := hs
            exact ⟨Bx, py, qy, h1, (hg.block Bx (Array.getElem?_eq_some_iff.1 h2).1 (fun e => by obtain ⟨_, o, ho, hc⟩ := hr Bx e.symm; rw [h2] at ho; cases ho; cases hc)).trans h2, h3, h4⟩) ?assign ?body ?done ?stop
        case assign =>
          rintro l pre y W K ⟨hi1, hi2, hi3, hi4⟩ hK
          obtain ⟨py, qy, hy⟩ := y.2.1.agg
          rw [hy]
          gi_wp2
          exact hK _ _ ((KeepsOthers.alloc _ _).from _) (KpB.of_below ((Below.refl _ W).alloc (Nat.le_refl _) _)) ⟨hi1, hi2.alloc _, hi3.trans (((Below.refl _ W).alloc (Nat.le_refl _) _).mono hi3.size), by simp; omega⟩ ⟨W.heap.size, py, qy, hy, World.alloc_heap_new _ _, hi4, by rw [hy]⟩
        case body =>
          rintro l pre y a' W hl ⟨r, hr⟩ ⟨hi1, hi2, hi3, hi4⟩ ⟨Bx, py, qy, hy, hx, hBx, rfl⟩ hlt
          have hc := hi2.cell
          have hf := hi2.frozen
          have hx0 : W.cell? ⟨Bx, 0, none⟩ = some (.pointer py) := by unfold World.cell?; rw [hx]; rfl
          have hx1 : W.cell? ⟨Bx, 1, none⟩ = some (.pointer qy) := by unfold World.cell?; rw [hx]; rfl
          have HI1 := Lx.Hd.mk hi1
          clear hi1
          cases hrt : y.1.2.right ok oks
          · rw [hy]
            gi_wp2_with (refine ⟨trivial, ?_⟩; gi_at_call 58; refine (CallsIn.inRound l (callsIn_wide.2 (ih y.1.2 _ _ y.2.2.1 (Keys.below hG (by exact hi3)) y.2.2.2 (by rw [← hy]; exact y.2.1.below hi3)))).mono ?_; rw [hrt]; rintro e' W3 ⟨rfl, hb3⟩; have hc3 : W3.cell? ⟨w.heap.size + 1, 0, none⟩ = some (.bool false) := (hb3.cell (p := ⟨w.heap.size + 1, 0, none⟩) hi2.lt).trans hc; have hf3 : W3.frozen? ⟨w.heap.size + 1, 0, none⟩ = false := (hb3.frozen (p := ⟨w.heap.size + 1, 0, none⟩) hi2.lt).trans hf; have HB3 := Lx.Hd.mk hb3; clear hb3)
            have hB : Below W.heap.size W W3 := HB3.out
            exact ⟨((keeps_of_below hB).trans (KeepsOthers.setCell _ _ _)).from _, rfl, by rw [allR_snoc, hrt, Bool.and_false], blk_put (cs := #[.bool false]) ((hB.block _ hi2.lt).trans hi2) 0 _ rfl, (hi3.trans (hB.mono hi3.size)).setCell (p := ⟨w.heap.size + 1, 0, none⟩) (Nat.le_succ _) _⟩
          · rw [hy]
            gi_wp2_with (refine ⟨trivial, ?_⟩; gi_at_call 58; refine (CallsIn.inRound l (callsIn_wide.2 (ih y.1.2 _ _ y.2.2.1 (Keys.below hG (by exact hi3)) y.2.2.2 (by rw [← hy]; exact y.2.1.below hi3)))).mono ?_; rw [hrt]; rintro e' W3 ⟨rfl, hb3⟩; have hc3 : W3.cell? ⟨w.heap.size + 1, 0, none⟩ = some (.bool false) := (hb3.cell (p := ⟨w.heap.size + 1, 0, none⟩) hi2.lt).trans hc; have hf3 : W3.frozen? ⟨w.heap.size + 1, 0, none⟩ = false := (hb3.frozen (p := ⟨w.heap.size + 1, 0, none⟩) hi2.lt).trans hf; have HB3 := Lx.Hd.mk hb3; clear hb3)
            have hB : Below W.heap.size W W3 := HB3.out
            exact ⟨(keeps_of_below hB).from _, KpB.of_below hB, by rw [allR_snoc, HI1.out, hrt]; rfl, (hB.block _ hi2.lt).trans hi2, hi3.trans (hB.mono hi3.size), Nat.le_trans hi4 hB.size⟩
        case done =>
          rintro D' ys W hD' rfl ⟨h1, h2, h3, h4⟩ hK
          have hc := h2.cell
          have hf := h2.frozen
          have HA := Lx.Hd.mk h1
          clear h1
          go_wp2
          have hK' := (KeepsOthers.setCell W ⟨w.heap.size + 1, 0, none⟩ (.bool true)).same D' _ hK rfl
          refine ⟨by simp, .inl ⟨_, _, rfl, run_takeDeferred hK', ?_⟩⟩
          have hc5 := cell_kept (World.cell?_setCell_same' W ⟨w.heap.size + 1, 0, none⟩ (.bool true) (by rw [hc]; rfl)) (grownBy_putObj' _ D' (.deferred none)) (fun r e => by cases e; exact ⟨_, hK', rfl⟩)
          refine ⟨.bool true, by simp [results, Tryd.f58, go_sem, hc5], ?_, (h3.setCell (p := ⟨w.heap.size + 1, 0, none⟩) (by simp) _).trans (belowK_b (w := w) (Nat.le_refl _) _ D' _ _ (by omega) hK' rfl rfl)⟩
          show Ending.returned (.bool true) = .returned (.bool (ok e && (Nd.ex e).kids.all (Nd.right ok oks)))
          rw [hok, HALL.out, HA.out]; rfl
        case stop =>
          rintro D' c pre W hD' hpre ⟨rfl, hfa, h2, h3⟩ hK
          have hc := h2.cell
          have HA := Lx.Hd.mk hfa
          clear hfa
          refine wpIn_wide.2 ?_
          go_wp2
          refine ⟨by simp, .inl ⟨_, _, rfl, run_takeDeferred hK, ?_⟩⟩
          have hc5 := cell_kept hc (grownBy_putObj' _ D' (.deferred none)) (fun r e => by cases e; exact ⟨_, hK, rfl⟩)
          refine ⟨.bool false, by simp [results, Tryd.f58, go_sem, hc5], ?_, h3.trans (belowK_b (w := w) (Nat.le_refl _) W D' _ _ (by omega) hK rfl rfl)⟩
          show Ending.returned (.bool false) = .returned (.bool (ok e && (Nd.ex e).kids.all (Nd.right ok oks)))
          have hz : allR ok oks xs = false := by
            obtain ⟨z, hz⟩ := hpre
            rw [← hz, allR_append, HA.out]; rfl
          rw [hok, HALL.out, hz]; rfl
    | st s =>
      obtain ⟨a, rfl, hp⟩ := hN
      refine (callsIn_wide (n := 9)).1 ?_
      refine callsIn_of_wp_marks Tryd.func58 rfl trivial ?_ rfl
      simp only [Tryd.ntmps58, List.size_toArray, List.length_cons, List.length_nil, Nat.reduceAdd, Nat.reduceSub, Array.replicate_succ, Array.replicate_zero, List.push_toArray, List.append_toArray, List.nil_append, List.cons_append]
      have hE := fun W (hb : Below w.heap.size w W) => O.st a s W (Keys.below hG hb) hP.own (hp.below hb)
      have HE := Lx.Hd.mk hE
      clear hE hp
      have hb0 : Boxed ((w.alloc (.cells #[.pointer none, .pointer (some a)] 97)).alloc (.cells #[.bool false] 4)) (w.heap.size + 1) 4 (.bool false) := by have := World.alloc_heap_new (w.alloc (.cells #[.pointer none, .pointer (some a)] 97)) (.cells #[.bool false] 4); rwa [World.size_alloc] at this
      have hn0 := cells_new2 w (.pointer none) (.pointer (some a)) 97
      have hB0 : Below w.heap.size w ((w.alloc (.cells #[.pointer none, .pointer (some a)] 97)).alloc (.cells #[.bool false] 4)) := ((Below.refl _ w).alloc (Nat.le_refl _) _).alloc (by simp) _
      have Hb0 := Lx.Hd.mk hb0
      have Hn0 := Lx.Hd.mk (And.intro (cell_alloc_a (.cells #[.bool false] 4) hn0.1) (cell_alloc_a (.cells #[.bool false] 4) hn0.2))
      have HB0 := Lx.Hd.mk hB0
      clear hb0 hn0 hB0
      cases hok : oks s
      · refine wpIn_wide.2 ?_
        go_wp2_with (first | (go_at_call 74; refine (HE.out _ (by exact HB0.out)).mono ?_; rw [hok]; rintro e' w1 ⟨rfl, hb⟩; have hbx : Boxed w1 (w.heap.size + 1) 4 (.bool false) := (hb.block _ Hb0.out.lt).trans Hb0.out; have hc1 := hbx.cell; have hf1 := hbx.frozen; have HB1 := Lx.Hd.mk (HB0.out.trans (hb.mono HB0.out.size)); clear hb hbx))
        have hc2 := World.cell?_setCell_same' w1 ⟨w.heap.size + 1, 0, none⟩ (.bool false) (by rw [hc1]; rfl)
        refine ⟨.bool false, by simp [results, Tryd.f58, go_sem, hc2], ?_, HB1.out.setCell (p := ⟨w.heap.size + 1, 0, none⟩) (by simp) _⟩
        show Ending.returned (.bool false) = .returned (.bool (oks s && _))
        rw [hok]; rfl
      · refine wpIn_wide.2 ?_
        go_upto_region 3 with (first | (go_at_call 74; refine (HE.out _ (by exact HB0.out)).mono ?_; rw [hok]; rintro e' w1 ⟨rfl, hb⟩; have hbx : Boxed w1 (w.heap.size + 1) 4 (.bool false) := (hb.block _ Hb0.out.lt).trans Hb0.out; have hn1 := pw_cell_below hb Hn0.out.1; have hn2 := pw_cell_below hb Hn0.out.2; have Hb1 := Lx.Hd.mk hbx; have HB1 := Lx.Hd.mk (HB0.out.trans (hb.mono HB0.out.size)); clear hb hbx))
        refine (wpIn_wide (n := 9)).1 ?_
        gi_wp2_with (refine ⟨trivial, ?_⟩; gi_at_call 72; refine (children_any _ _ _ _).mono ?_; rintro e' w' ⟨rfl, rfl⟩)
        obtain ⟨W0, hW0⟩ : ∃ W0, w1.alloc (.cells #[.pointer none, .pointer (some a)] 97) = W0 := ⟨_, rfl⟩
        have hsz : w1.heap.size < W0.heap.size := by rw [← hW0]; simp
        have hlt1 := Hb1.out.lt
        have hw0 : Below w.heap.size w W0 := by rw [← hW0]; exact HB1.out.trans (((Below.refl _ w1).alloc (Nat.le_refl _) _).mono HB1.out.size)
        have hn3 := cells_new2 w1 (.pointer none) (.pointer (some a)) 97
        have hbx0 : Boxed W0 (w.heap.size + 1) 4 (.bool false) := by rw [← hW0]; exact Hb1.out.alloc _
        rw [hW0] at hn3 ⊢
        have hkid : ∀ y ∈ (Nd.st s).kids, y.deep ≤ D ∧ AllN P y := fun y hy => ⟨by have := Nd.deep_kids hy; omega, hP.kid hy⟩
        obtain ⟨xs, hxs, hseq⟩ := seq_stops 8 (fun y => y.deep ≤ D ∧ AllN P y) (Nd.st s) hkid (.agg #[.pointer none, .pointer (some a)]) (.pointer none) (.pointer (some a)) w W0 (w.heap.size + 1) w1.heap.size rfl HNd.out hw0 (by omega) (by omega) (by omega) (by omega) hn3.1 hn3.2
        have hall : (Nd.st s).kids.all (Nd.right ok oks) = allR ok oks xs := by unfold allR; rw [← hxs, List.all_map]; rfl
        have HALL := Lx.Hd.mk hall
        clear hall hn1 hn2 hn3
        refine (wpIn_wide (n := 9)).1 ?_
        gi_wp2
        refine wpIn_rangeFunc_ownH (F := Fence.wide) rfl (by omega) (gf := 80) (lb := #[.pointer (some ⟨w1.heap.size, 0, none⟩)]) rfl trivial (enters_of Tryd.func80 (by kernel_rfl) rfl)
          hseq KpB.trans (fun W l o o' _ h hc _ => KpB.putObj W l o o' h hc) (Below.refl _ _) (fun _ => rfl)
          (fun pre W => allR ok oks pre = true ∧ Boxed W (w.heap.size + 1) 4 (.bool false) ∧ Below w.heap.size w W ∧ W0.heap.size ≤ W.heap.size)
          (fun c pre W => c = .ret ∧ allR ok oks pre = false ∧ Boxed W (w.heap.size + 1) 4 (.bool false) ∧ Below w.heap.size w W)
          (OwnFrom.and (fun _ _ _ _ hs _ _ => hs) (OwnFrom.and (Own.from (boxed_own _ _ _) _) (OwnFrom.and (ownFrom_below (Nat.le_refl _) (by omega)) (fun _ _ _ _ hs hg _ => Nat.le_trans hs hg.size))))
          (fun c => OwnFrom.and (fun _ _ _ _ hs _ _ => hs) (OwnFrom.and (fun _ _ _ _ hs _ _ => hs) (OwnFrom.and (Own.from (boxed_own _ _ _) _) (ownFrom_below (Nat.le_refl _) (by omega)))))
          ⟨rfl, hbx0, hw0, Nat.le_refl _⟩
          (fun y a' W => ∃ Bx py qy, y.1.1 = .agg #[.pointer py, .pointer qy] ∧ W.heap[Bx]? = some (.cells #[.pointer py, .pointer qy] 97 (0, 0)) ∧ W0.heap.size ≤ Bx ∧
            a' = { tmps := #[.agg #[.pointer none, .pointer (some a)], .pointer (some ⟨w.heap.size, 0, none⟩), .pointer (some ⟨w.heap.size + 1, 0, none⟩), .pointer (some ⟨Bx, 0, none⟩), .pointer (some ⟨w.heap.size, 0, none⟩), .pointer none, .bool false, .bool false, undef, undef, undef, undef, .bool false, .bool false, .pointer (some ⟨w.heap.size, 1, none⟩), .pointer (some a), .bool true, .bool true, .pointer (some ⟨w.heap.size, 1, none⟩), .pointer (some a), .bool true, .bool false, .bool false, .bool false, .agg #[.pointer none, .pointer (some a)], .func (.func 80) #[] #[.pointer (some ⟨w1.heap.size, 0, none⟩)], y.1.1, undef, undef, undef], defers := [] })
          (fun y a' s W W' row hs hg hr => by
            obtain ⟨Bx, py, qy, h1, h2, h3, h4⟩ := hs
            exact ⟨Bx, py, qy, h1, (hg.block Bx (Array.getElem?_eq_some_iff.1 h2).1 (fun e => by obtain ⟨_, o, ho, hc⟩ := hr Bx e.symm; rw [h2] at ho; cases ho; cases hc)).trans h2, h3, h4⟩) ?assign ?body ?done ?stop
        case assign =>
          rintro l pre y W K ⟨hi1, hi2, hi3, hi4⟩ hK
          obtain ⟨py, qy, hy⟩ := y.2.1.agg
          rw [hy]
          gi_wp2
          exact hK _ _ ((KeepsOthers.alloc _ _).from _) (KpB.of_below ((Below.refl _ W).alloc (Nat.le_refl _) _)) ⟨hi1, hi2.alloc _, hi3.trans (((Below.refl _ W).alloc (Nat.le_refl _) _).mono hi3.size), by simp; omega⟩ ⟨W.heap.size, py, qy, hy, World.alloc_heap_new _ _, hi4, by rw [hy]⟩
        case body =>
          rintro l pre y a' W hl ⟨r, hr⟩ ⟨hi1, hi2, hi3, hi4⟩ ⟨Bx, py, qy, hy, hx, hBx, rfl⟩ hlt
          have hc := hi2.cell
          have hf := hi2.frozen
          have hx0 : W.cell? ⟨Bx, 0, none⟩ = some (.pointer py) := by unfold World.cell?; rw [hx]; rfl
          have hx1 : W.cell? ⟨Bx, 1, none⟩ = some (.pointer qy) := by unfold World.cell?; rw [hx]; rfl
          have HI1 := Lx.Hd.mk hi1
          clear hi1
          cases hrt : y.1.2.right ok oks
          · rw [hy]
            gi_wp2_with (refine ⟨trivial, ?_⟩; gi_at_call 58; refine (CallsIn.inRound l (callsIn_wide.2 (ih y.1.2 _ _ y.2.2.1 (Keys.below hG (by exact hi3)) y.2.2.2 (by rw [← hy]; exact y.2.1.below hi3)))).mono ?_; rw [hrt]; rintro e' W3 ⟨rfl, hb3⟩; have hc3 : W3.cell? ⟨w.heap.size + 1, 0, none⟩ = some (.bool false) := (hb3.cell (p := ⟨w.heap.size + 1, 0, none⟩) hi2.lt).trans hc; have hf3 : W3.frozen? ⟨w.heap.size + 1, 0, none⟩ = false := (hb3.frozen (p := ⟨w.heap.size + 1, 0, none⟩) hi2.lt).trans hf; have HB3 := Lx.Hd.mk hb3; clear hb3)
            have hB : Below W.heap.size W W3 := HB3.out
            exact ⟨((keeps_of_below hB).trans (KeepsOthers.setCell _ _ _)).from _, rfl, by rw [allR_snoc, hrt, Bool.and_false], blk_put (cs := #[.bool false]) ((hB.block _ hi2.lt).trans hi2) 0 _ rfl, (hi3.trans (hB.mono hi3.size)).setCell (p := ⟨w.heap.size + 1, 0, none⟩) (Nat.le_succ _) _⟩
          · rw [hy]
            gi_wp2_with (refine ⟨trivial, ?_⟩; gi_at_call 58; refine (CallsIn.inRound l (callsIn_wide.2 (ih y.1.2 _ _ y.2.2.1 (Keys.below hG (by exact hi3)) y.2.2.2 (by rw [← hy]; exact y.2.1.below hi3)))).mono ?_; rw [hrt]; rintro e' W3 ⟨rfl, hb3⟩; have hc3 : W3.cell? ⟨w.heap.size + 1, 0, none⟩ = some (.bool false) := (hb3.cell (p := ⟨w.heap.size + 1, 0, none⟩) hi2.lt).trans hc; have hf3 : W3.frozen? ⟨w.heap.size + 1, 0, none⟩ = false := (hb3.frozen (p := ⟨w.heap.size + 1, 0, none⟩) hi2.lt).trans hf; have HB3 := Lx.Hd.mk hb3; clear hb3)
            have hB : Below W.heap.size W W3 := HB3.out
            exact ⟨(keeps_of_below hB).from _, KpB.of_below hB, by rw [allR_snoc, HI1.out, hrt]; rfl, (hB.block _ hi2.lt).trans hi2, hi3.trans (hB.mono hi3.size), Nat.le_trans hi4 hB.size⟩
        case done =>
          rintro D' ys W hD' rfl ⟨h1, h2, h3, h4⟩ hK
          have hc := h2.cell
          have hf := h2.frozen
          have HA := Lx.Hd.mk h1
          clear h1
          go_wp2
          have hK' := (KeepsOthers.setCell W ⟨w.heap.size + 1, 0, none⟩ (.bool true)).same D' _ hK rfl
          refine ⟨by simp, .inl ⟨_, _, rfl, run_takeDeferred hK', ?_⟩⟩
          have hc5 := cell_kept (World.cell?_setCell_same' W ⟨w.heap.size + 1, 0, none⟩ (.bool true) (by rw [hc]; rfl)) (grownBy_putObj' _ D' (.deferred none)) (fun r e => by cases e; exact ⟨_, hK', rfl⟩)
          refine ⟨.bool true, by simp [results, Tryd.f58, go_sem, hc5], ?_, (h3.setCell (p := ⟨w.heap.size + 1, 0, none⟩) (by simp) _).trans (belowK_b (w := w) (Nat.le_refl _) _ D' _ _ (by omega) hK' rfl rfl)⟩
          show Ending.returned (.bool true) = .returned (.bool (oks s && (Nd.st s).kids.all (Nd.right ok oks)))
          rw [hok, HALL.out, HA.out]; rfl
        case stop =>
          rintro D' c pre W hD' hpre ⟨rfl, hfa, h2, h3⟩ hK
          have hc := h2.cell
          have HA := Lx.Hd.mk hfa
          clear hfa
          refine wpIn_wide.2 ?_
          go_wp2
          refine ⟨by simp, .inl ⟨_, _, rfl, run_takeDeferred hK, ?_⟩⟩
          have hc5 := cell_kept hc (grownBy_putObj' _ D' (.deferred none)) (fun r e => by cases e; exact ⟨_, hK, rfl⟩)
          refine ⟨.bool false, by simp [results, Tryd.f58, go_sem, hc5], ?_, h3.trans (belowK_b (w := w) (Nat.le_refl _) W D' _ _ (by omega) hK rfl rfl)⟩
          show Ending.returned (.bool false) = .returned (.bool (oks s && (Nd.st s).kids.all (Nd.right ok oks)))
          have hz : allR ok oks xs = false := by
            obtain ⟨z, hz⟩ := hpre
            rw [← hz, allR_append, HA.out]; rfl
          rw [hok, HALL.out, hz]; rfl
end Go.Proofs.YtnjnadlgndjnbaaDoor.A
namespace Go.Proofs.YtnjnadlgndjnbaaDoor.A
open Go.RowKit Go.Shelf Go.Proofs.YtnjnadlgndjnbaaDoor.As Go.Proofs.YtnjnadlgndjnbaaDoorW.PrintWords Go.Proofs.YtnjnadlgndjnbaaDoorW.PrintLast Go.Proofs.YtnjnadlgndjnbaaDoorW.PrintMore
structure SC (w : World) (a : Addr) (f0 f1 f2 f3 : Int) (f4 : ByteArray) (A5 A6 A7 A8 A9 : Option Addr) (n5 n6 n7 n8 n9 c5 c6 c7 c8 c9 : Nat) : Prop where
  k0 : w.cell? a = some (.int .i64 f0)
  k1 : w.cell? ⟨a.block, a.off + 1, none⟩ = some (.int .i64 f1)
  k2 : w.cell? ⟨a.block, a.off + 2, none⟩ = some (.int .i64 f2)
  k3 : w.cell? ⟨a.block, a.off + 3, none⟩ = some (.int .i64 f3)
  k4 : w.cell? ⟨a.block, a.off + 4, none⟩ = some (.string f4)
  k5 : w.cell? ⟨a.block, a.off + 5, none⟩ = some (.slice A5 n5 c5)
  k6 : w.cell? ⟨a.block, a.off + 6, none⟩ = some (.slice A6 n6 c6)
  k7 : w.cell? ⟨a.block, a.off + 7, none⟩ = some (.slice A7 n7 c7)
  k8 : w.cell? ⟨a.block, a.off + 8, none⟩ = some (.slice A8 n8 c8)
  k9 : w.cell? ⟨a.block, a.off + 9, none⟩ = some (.slice A9 n9 c9)
theorem SC.below {w W : World} {a : Addr} {f0 f1 f2 f3 : Int} {f4 : ByteArray} {A5 A6 A7 A8 A9 : Option Addr} {n5 n6 n7 n8 n9 c5 c6 c7 c8 c9 : Nat} (h : SC w a f0 f1 f2 f3 f4 A5 A6 A7 A8 A9 n5 n6 n7 n8 n9 c5 c6 c7 c8 c9) (hb : Below w.heap.size w W) : SC W a f0 f1 f2 f3 f4 A5 A6 A7 A8 A9 n5 n6 n7 n8 n9 c5 c6 c7 c8 c9 :=
  ⟨pw_cell_below hb h.k0, pw_cell_below hb h.k1, pw_cell_below hb h.k2, pw_cell_below hb h.k3, pw_cell_below hb h.k4, pw_cell_below hb h.k5, pw_cell_below hb h.k6, pw_cell_below hb h.k7, pw_cell_below hb h.k8, pw_cell_below hb h.k9⟩
set_option maxRecDepth 100000 in
set_option maxHeartbeats 20000000 in
theorem has_let (a : Addr) (B : Nat) (f0 f1 f2 f3 : Int) (f4 : ByteArray) (A5 A6 A7 A8 A9 : Option Addr) (n5 n6 n7 n8 n9 c5 c6 c7 c8 c9 : Nat) (w : World) (hB : w.cell? ⟨B, 0, none⟩ = some (.pointer (some a))) (hS : SC w a f0 f1 f2 f3 f4 A5 A6 A7 A8 A9 n5 n6 n7 n8 n9 c5 c6 c7 c8 c9) :
    Calls Tryd.prog 90 #[.bool true, .bool false, .bool true, .bool false, .bool false, .bool true, .bool false, .bool false, .pointer (some ⟨B, 0, none⟩)] w fun e w' => e = .returned (.bool ((f3 == 0) && (((n5 : Int) == 0) && (((n6 : Int) == 0) && (((n7 : Int) == 1) && (((n8 : Int) == 0) && (((n9 : Int) == 0)))))))) ∧ w' = w := by
  obtain ⟨k0, k1, k2, k3, k4, k5, k6, k7, k8, k9⟩ := hS
  cases h0 : (f3 == 0); rotate_left
  cases h1 : ((n5 : Int) == 0); rotate_left
  cases h2 : ((n6 : Int) == 0); rotate_left
  cases h3 : ((n7 : Int) == 1); rotate_left
  cases h4 : ((n8 : Int) == 0); rotate_left
  cases h5 : ((n9 : Int) == 0); rotate_left
  all_goals (go_enter Tryd.func90, Tryd.ntmps90; (try simp only [List.append_eq, List.cons_append, List.nil_append]); go_wp2; go_ret; exact ⟨rfl, rfl⟩)
set_option maxRecDepth 100000 in
set_option maxHeartbeats 20000000 in
theorem has_set (a : Addr) (B : Nat) (f0 f1 f2 f3 : Int) (f4 : ByteArray) (A5 A6 A7 A8 A9 : Option Addr) (n5 n6 n7 n8 n9 c5 c6 c7 c8 c9 : Nat) (w : World) (hB : w.cell? ⟨B, 0, none⟩ = some (.pointer (some a))) (hS : SC w a f0 f1 f2 f3 f4 A5 A6 A7 A8 A9 n5 n6 n7 n8 n9 c5 c6 c7 c8 c9) :
    Calls Tryd.prog 90 #[.bool false, .bool false, .bool true, .bool false, .bool true, .bool true, .bool false, .bool false, .pointer (some ⟨B, 0, none⟩)] w fun e w' => e = .returned (.bool ((f2 == 0) && ((f3 == 0) && (((n5 : Int) == 0) && (((n7 : Int) == 1) && (((n8 : Int) == 0) && (((n9 : Int) == 0)))))))) ∧ w' = w := by
  obtain ⟨k0, k1, k2, k3, k4, k5, k6, k7, k8, k9⟩ := hS
  cases h0 : (f2 == 0); rotate_left
  cases h1 : (f3 == 0); rotate_left
  cases h2 : ((n5 : Int) == 0); rotate_left
  cases h3 : ((n7 : Int) == 1); rotate_left
  cases h4 : ((n8 : Int) == 0); rotate_left
  cases h5 : ((n9 : Int) == 0); rotate_left
  all_goals (go_enter Tryd.func90, Tryd.ntmps90; (try simp only [List.append_eq, List.cons_append, List.nil_append]); go_wp2; go_ret; exact ⟨rfl, rfl⟩)
set_option maxRecDepth 100000 in
set_option maxHeartbeats 20000000 in
theorem has_one (a : Addr) (B : Nat) (f0 f1 f2 f3 : Int) (f4 : ByteArray) (A5 A6 A7 A8 A9 : Option Addr) (n5 n6 n7 n8 n9 c5 c6 c7 c8 c9 : Nat) (w : World) (hB : w.cell? ⟨B, 0, none⟩ = some (.pointer (some a))) (hS : SC w a f0 f1 f2 f3 f4 A5 A6 A7 A8 A9 n5 n6 n7 n8 n9 c5 c6 c7 c8 c9) :
    Calls Tryd.prog 90 #[.bool false, .bool false, .bool false, .bool false, .bool false, .bool true, .bool false, .bool false, .pointer (some ⟨B, 0, none⟩)] w fun e w' => e = .returned (.bool ((f2 == 0) && ((f3 == 0) && ((f4.toList == []) && (((n5 : Int) == 0) && (((n6 : Int) == 0) && (((n7 : Int) == 1) && (((n8 : Int) == 0) && (((n9 : Int) == 0)))))))))) ∧ w' = w := by
  obtain ⟨k0, k1, k2, k3, k4, k5, k6, k7, k8, k9⟩ := hS
  cases h0 : (f2 == 0); rotate_left
  cases h1 : (f3 == 0); rotate_left
  cases h2 : (f4.toList == [])
  · have h2' : f4.toList.isEmpty = false := by revert h2; cases f4.toList <;> simp
    go_enter Tryd.func90, Tryd.ntmps90
    (try simp only [List.append_eq, List.cons_append, List.nil_append])
    go_wp2
    go_ret
    exact ⟨rfl, rfl⟩
  have h2' : f4.toList.isEmpty = true := by revert h2; cases f4.toList <;> simp
  cases h3 : ((n5 : Int) == 0); rotate_left
  cases h4 : ((n6 : Int) == 0); rotate_left
  cases h5 : ((n7 : Int) == 1); rotate_left
  cases h6 : ((n8 : Int) == 0); rotate_left
  cases h7 : ((n9 : Int) == 0); rotate_left
  all_goals (go_enter Tryd.func90, Tryd.ntmps90; (try simp only [List.append_eq, List.cons_append, List.nil_append]); go_wp2; go_ret; exact ⟨rfl, rfl⟩)
set_option maxRecDepth 100000 in
set_option maxHeartbeats 20000000 in
theorem has_iff (a : Addr) (B : Nat) (f0 f1 f2 f3 : Int) (f4 : ByteArray) (A5 A6 A7 A8 A9 : Option Addr) (n5 n6 n7 n8 n9 c5 c6 c7 c8 c9 : Nat) (w : World) (hB : w.cell? ⟨B, 0, none⟩ = some (.pointer (some a))) (hS : SC w a f0 f1 f2 f3 f4 A5 A6 A7 A8 A9 n5 n6 n7 n8 n9 c5 c6 c7 c8 c9) :
    Calls Tryd.prog 90 #[.bool false, .bool false, .bool false, .bool false, .bool false, .bool true, .bool true, .bool true, .pointer (some ⟨B, 0, none⟩)] w fun e w' => e = .returned (.bool ((f2 == 0) && ((f3 == 0) && ((f4.toList == []) && (((n5 : Int) == 0) && (((n6 : Int) == 0) && (((n7 : Int) == 1)))))))) ∧ w' = w := by
  obtain ⟨k0, k1, k2, k3, k4, k5, k6, k7, k8, k9⟩ := hS
  cases h0 : (f2 == 0); rotate_left
  cases h1 : (f3 == 0); rotate_left
  cases h2 : (f4.toList == [])
  · have h2' : f4.toList.isEmpty = false := by revert h2; cases f4.toList <;> simp
    go_enter Tryd.func90, Tryd.ntmps90
    (try simp only [List.append_eq, List.cons_append, List.nil_append])
    go_wp2
    go_ret
    exact ⟨rfl, rfl⟩
  have h2' : f4.toList.isEmpty = true := by revert h2; cases f4.toList <;> simp
  cases h3 : ((n5 : Int) == 0); rotate_left
  cases h4 : ((n6 : Int) == 0); rotate_left
  cases h5 : ((n7 : Int) == 1); rotate_left
  all_goals (go_enter Tryd.func90, Tryd.ntmps90; (try simp only [List.append_eq, List.cons_append, List.nil_append]); go_wp2; go_ret; exact ⟨rfl, rfl⟩)
set_option maxRecDepth 100000 in
set_option maxHeartbeats 20000000 in
theorem has_whl (a : Addr) (B : Nat) (f0 f1 f2 f3 : Int) (f4 : ByteArray) (A5 A6 A7 A8 A9 : Option Addr) (n5 n6 n7 n8 n9 c5 c6 c7 c8 c9 : Nat) (w : World) (hB : w.cell? ⟨B, 0, none⟩ = some (.pointer (some a))) (hS : SC w a f0 f1 f2 f3 f4 A5 A6 A7 A8 A9 n5 n6 n7 n8 n9 c5 c6 c7 c8 c9) :
    Calls Tryd.prog 90 #[.bool false, .bool false, .bool false, .bool false, .bool false, .bool true, .bool true, .bool false, .pointer (some ⟨B, 0, none⟩)] w fun e w' => e = .returned (.bool ((f2 == 0) && ((f3 == 0) && ((f4.toList == []) && (((n5 : Int) == 0) && (((n6 : Int) == 0) && (((n7 : Int) == 1) && (((n9 : Int) == 0))))))))) ∧ w' = w := by
  obtain ⟨k0, k1, k2, k3, k4, k5, k6, k7, k8, k9⟩ := hS
  cases h0 : (f2 == 0); rotate_left
  cases h1 : (f3 == 0); rotate_left
  cases h2 : (f4.toList == [])
  · have h2' : f4.toList.isEmpty = false := by revert h2; cases f4.toList <;> simp
    go_enter Tryd.func90, Tryd.ntmps90
    (try simp only [List.append_eq, List.cons_append, List.nil_append])
    go_wp2
    go_ret
    exact ⟨rfl, rfl⟩
  have h2' : f4.toList.isEmpty = true := by revert h2; cases f4.toList <;> simp
  cases h3 : ((n5 : Int) == 0); rotate_left
  cases h4 : ((n6 : Int) == 0); rotate_left
  cases h5 : ((n7 : Int) == 1); rotate_left
  cases h6 : ((n9 : Int) == 0); rotate_left
  all_goals (go_enter Tryd.func90, Tryd.ntmps90; (try simp only [List.append_eq, List.cons_append, List.nil_append]); go_wp2; go_ret; exact ⟨rfl, rfl⟩)
set_option maxRecDepth 100000 in
set_option maxHeartbeats 20000000 in
theorem has_num (a : Addr) (B : Nat) (f0 f1 f2 f3 : Int) (f4 : ByteArray) (A5 A6 A7 A8 A9 : Option Addr) (n5 n6 n7 n8 n9 c5 c6 c7 c8 c9 : Nat) (w : World) (hB : w.cell? ⟨B, 0, none⟩ = some (.pointer (some a))) (hS : SC w a f0 f1 f2 f3 f4 A5 A6 A7 A8 A9 n5 n6 n7 n8 n9 c5 c6 c7 c8 c9) :
    Calls Tryd.prog 90 #[.bool false, .bool true, .bool false, .bool false, .bool false, .bool false, .bool false, .bool false, .pointer (some ⟨B, 0, none⟩)] w fun e w' => e = .returned (.bool ((f2 == 0) && ((f4.toList == []) && (((n5 : Int) == 0) && (((n6 : Int) == 0) && (!((n7 : Int) == 1) && (((n7 : Int) == 0) && (((n8 : Int) == 0) && (((n9 : Int) == 0)))))))))) ∧ w' = w := by
  obtain ⟨k0, k1, k2, k3, k4, k5, k6, k7, k8, k9⟩ := hS
  cases h0 : (f2 == 0); rotate_left
  cases h1 : (f4.toList == [])
  · have h1' : f4.toList.isEmpty = false := by revert h1; cases f4.toList <;> simp
    go_enter Tryd.func90, Tryd.ntmps90
    (try simp only [List.append_eq, List.cons_append, List.nil_append])
    go_wp2
    go_ret
    exact ⟨rfl, rfl⟩
  have h1' : f4.toList.isEmpty = true := by revert h1; cases f4.toList <;> simp
  cases h2 : ((n5 : Int) == 0); rotate_left
  cases h3 : ((n6 : Int) == 0); rotate_left
  cases h4 : ((n7 : Int) == 1)
  case true =>
    go_enter Tryd.func90, Tryd.ntmps90
    (try simp only [List.append_eq, List.cons_append, List.nil_append])
    go_wp2
    go_ret
    exact ⟨rfl, rfl⟩
  cases h5 : ((n7 : Int) == 0); rotate_left
  cases h6 : ((n8 : Int) == 0); rotate_left
  cases h7 : ((n9 : Int) == 0); rotate_left
  all_goals (go_enter Tryd.func90, Tryd.ntmps90; (try simp only [List.append_eq, List.cons_append, List.nil_append]); go_wp2; go_ret; exact ⟨rfl, rfl⟩)
set_option maxRecDepth 100000 in
set_option maxHeartbeats 20000000 in
theorem has_atm (a : Addr) (B : Nat) (f0 f1 f2 f3 : Int) (f4 : ByteArray) (A5 A6 A7 A8 A9 : Option Addr) (n5 n6 n7 n8 n9 c5 c6 c7 c8 c9 : Nat) (w : World) (hB : w.cell? ⟨B, 0, none⟩ = some (.pointer (some a))) (hS : SC w a f0 f1 f2 f3 f4 A5 A6 A7 A8 A9 n5 n6 n7 n8 n9 c5 c6 c7 c8 c9) :
    Calls Tryd.prog 90 #[.bool false, .bool false, .bool false, .bool true, .bool false, .bool false, .bool true, .bool false, .pointer (some ⟨B, 0, none⟩)] w fun e w' => e = .returned (.bool ((f2 == 0) && ((f3 == 0) && ((f4.toList == []) && (((n6 : Int) == 0) && (!((n7 : Int) == 1) && (((n7 : Int) == 0) && (((n9 : Int) == 0))))))))) ∧ w' = w := by
  obtain ⟨k0, k1, k2, k3, k4, k5, k6, k7, k8, k9⟩ := hS
  cases h0 : (f2 == 0); rotate_left
  cases h1 : (f3 == 0); rotate_left
  cases h2 : (f4.toList == [])
  · have h2' : f4.toList.isEmpty = false := by revert h2; cases f4.toList <;> simp
    go_enter Tryd.func90, Tryd.ntmps90
    (try simp only [List.append_eq, List.cons_append, List.nil_append])
    go_wp2
    go_ret
    exact ⟨rfl, rfl⟩
  have h2' : f4.toList.isEmpty = true := by revert h2; cases f4.toList <;> simp
  cases h3 : ((n6 : Int) == 0); rotate_left
  cases h4 : ((n7 : Int) == 1)
  case true =>
    go_enter Tryd.func90, Tryd.ntmps90
    (try simp only [List.append_eq, List.cons_append, List.nil_append])
    go_wp2
    go_ret
    exact ⟨rfl, rfl⟩
  cases h5 : ((n7 : Int) == 0); rotate_left
  cases h6 : ((n9 : Int) == 0); rotate_left
  all_goals (go_enter Tryd.func90, Tryd.ntmps90; (try simp only [List.append_eq, List.cons_append, List.nil_append]); go_wp2; go_ret; exact ⟨rfl, rfl⟩)
end Go.Proofs.YtnjnadlgndjnbaaDoor.A
namespace Go.Proofs.YtnjnadlgndjnbaaDoor.A
open Go.RowKit Go.Shelf Go.Proofs.YtnjnadlgndjnbaaDoor.As Go.Proofs.YtnjnadlgndjnbaaDoorW.PrintWords Go.Proofs.YtnjnadlgndjnbaaDoorW.PrintLast Go.Proofs.YtnjnadlgndjnbaaDoorW.PrintMore
theorem notname_any (s : ByteArray) (w : World) (hs : s.size ≤ 140737488351232) (hG : Keys w) : Calls Tryd.prog 92 #[.string s] w fun e w' => e = .returned (.bool (!nameB s)) ∧ Below w.heap.size w w' := by
  go_enter Tryd.func92, Tryd.ntmps92
  go_wp2_with (go_at_call 48; refine (name_any s _ hs hG).mono ?_; rintro e w1 ⟨rfl, hb⟩; have HB := Lx.Hd.mk hb; clear hb)
  go_ret
  exact ⟨rfl, HB.out⟩
def Seen (l : List ByteArray) (i : Nat) : Prop := ∀ j, j < i → ∀ x, l[j]? = some x → nameB x = true
def IdxPost (l : List ByteArray) (B : Nat) (w : World) (e : Ending) (w' : World) : Prop := ∃ r : Int, e = .returned (.int .i64 r) ∧ Below B w w' ∧ ((r = -1 ∧ l.all nameB = true) ∨ (0 ≤ r ∧ l.all nameB = false))
set_option maxRecDepth 100000 in
theorem index_names (A : Option Addr) (c : Nat) (l : List ByteArray) (w : World) (hC : Kd.string.C w A l.length l) (hs : ∀ x ∈ l, x.size ≤ 140737488351232) (hG : Keys w) :
    Calls Tryd.prog 95 #[.slice A l.length c, .func (.func 92) #[] #[]] w (IdxPost l w.heap.size w) := by
  have hlen := hC.2.1
  go_enter Tryd.func95, Tryd.ntmps95
  go_wp2
  go_loopw [8] (fun t8 wr => ∃ i : Nat, i ≤ l.length ∧ t8 = .int .i64 i ∧ Seen l i ∧ Below w.heap.size w wr) (fun t8 _ => l.length - (intOf t8).toNat)
  case atStart => exact ⟨0, Nat.zero_le _, rfl, fun j h => absurd h (Nat.not_lt_zero j), Below.refl _ _⟩
  case round =>
    obtain ⟨i, hi, rfl, hSn, hB⟩ := hrel
    by_cases hlt : i < l.length
    · obtain ⟨ad, cs, hA, hc0, hK, hcell⟩ := Kd.C_get hC ByteArray.empty (i : Int) (by omega) (by omega)
      subst hA
      rw [Int.toNat_natCast] at hK hcell
      have hx : l.getD i ByteArray.empty = l[i] := by rw [List.getD_eq_getElem?_getD, List.getElem?_eq_getElem hlt]; rfl
      rw [hx] at hK
      obtain rfl : cs = [.string l[i]] := hK
      have c0 : wr.cell? (ad.add i) = some (.string l[i]) := pw_cell_below hB (by have := hcell 0 _ rfl; rwa [show i * Kd.string.sz + 0 = i from by show i * 1 + 0 = i; omega] at this)
      have HB := Lx.Hd.mk hB
      have HS := Lx.Hd.mk hSn
      clear hB hSn hcell hx
      have HN := Lx.Hd.mk (notname_any l[i] wr (hs _ (List.getElem_mem hlt)) (Keys.below hG HB.out))
      cases hn : nameB l[i]
      all_goals
        go_wp2_with (go_at_call 92; refine HN.out.mono ?_; rw [hn]; rintro e w1 ⟨rfl, hb⟩; have HB1 := Lx.Hd.mk hb; clear hb)
      · go_ret
        refine ⟨(i : Int), rfl, HB.out.trans (HB1.out.mono HB.out.size), .inr ⟨Int.natCast_nonneg i, ?_⟩⟩
        rw [List.all_eq_false]
        exact ⟨l[i], List.getElem_mem hlt, by rw [hn]; simp⟩
      · refine ⟨⟨i + 1, by omega, by go_num, ?_, HB.out.trans (HB1.out.mono HB.out.size)⟩, by simp [intOf]; omega⟩
        intro j hj x hx
        rcases (by omega : j < i ∨ j = i) with h | rfl
        · exact HS.out j h x hx
        · rw [List.getElem?_eq_getElem hlt] at hx
          obtain rfl := Option.some.inj hx
          exact hn
    · have HB := Lx.Hd.mk hB
      have HS := Lx.Hd.mk hSn
      clear hB hSn
      go_wp2
      go_ret
      obtain rfl : i = l.length := by omega
      refine ⟨-1, rfl, HB.out, .inl ⟨rfl, ?_⟩⟩
      rw [List.all_eq_true]
      intro x hx
      obtain ⟨j, hj, rfl⟩ := List.getElem_of_mem hx
      exact HS.out j hj _ (List.getElem?_eq_getElem hj)
theorem contains_bad (A : Option Addr) (c : Nat) (l : List ByteArray) (w : World) (hC : Kd.string.C w A l.length l) (hs : ∀ x ∈ l, x.size ≤ 140737488351232) (hG : Keys w) :
    Calls Tryd.prog 91 #[.slice A l.length c, .func (.func 92) #[] #[]] w fun e w' => e = .returned (.bool (!l.all nameB)) ∧ Below w.heap.size w w' := by
  have HI := Lx.Hd.mk (index_names A c l w hC hs hG)
  go_enter Tryd.func91, Tryd.ntmps91
  go_wp2_with (go_at_call 95; refine HI.out.mono ?_; rintro e w1 ⟨r, rfl, hb, hr⟩; have HB := Lx.Hd.mk hb; have HR := Lx.Hd.mk hr; clear hb hr)
  all_goals
    go_ret
    refine ⟨?_, HB.out⟩
    rcases HR.out with ⟨h1, h2⟩ | ⟨h1, h2⟩
    · rw [h2]; subst h1; rfl
    · rw [h2]; simp [h1]
end Go.Proofs.YtnjnadlgndjnbaaDoor.A
