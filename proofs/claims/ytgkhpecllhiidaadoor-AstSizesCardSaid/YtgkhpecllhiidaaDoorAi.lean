/- Package ast: (node).right, over what expr and stmt say. -/
import Derived.Test.YtgkhpecllhiidaaDoorAf
set_option linter.unusedVariables false
set_option linter.unusedSimpArgs false
namespace Go.Proofs.YtgkhpecllhiidaaDoor.A
open Go.RowKit Go.Shelf Go.Proofs.YtgkhpecllhiidaaDoor.As Go.Proofs.YtgkhpecllhiidaaDoorW.PrintWords Go.Proofs.YtgkhpecllhiidaaDoorW.PrintLast Go.Proofs.YtgkhpecllhiidaaDoorW.PrintMore
attribute [local go_sem] Oper.semAt_some

mutual
def rightE (ok : SE → Bool) : SE → Bool
  | ⟨a, b, c, d, n, l⟩ => ok ⟨a, b, c, d, n, l⟩ && rightEs ok l
def rightEs (ok : SE → Bool) : List SE → Bool
  | [] => true
  | e :: l => rightE ok e && rightEs ok l
end
mutual
def rightS (ok : SE → Bool) (oks : SS → Bool) : SS → Bool
  | ⟨a, b, c, d, n, m, i, x, t, e⟩ => oks ⟨a, b, c, d, n, m, i, x, t, e⟩ && (rightEs ok i && rightEs ok x && rightSs ok oks t && rightSs ok oks e)
def rightSs (ok : SE → Bool) (oks : SS → Bool) : List SS → Bool
  | [] => true
  | s :: l => rightS ok oks s && rightSs ok oks l
end
def Nd.own (ok : SE → Bool) (oks : SS → Bool) : Nd → Bool
  | .ex e => ok e
  | .st s => oks s
def Nd.right (ok : SE → Bool) (oks : SS → Bool) : Nd → Bool
  | .ex e => rightE ok e
  | .st s => rightS ok oks s
theorem right_ex (ok : SE → Bool) (oks : SS → Bool) (l : List SE) : (l.map Nd.ex).all (Nd.right ok oks) = rightEs ok l := by
  induction l with
  | nil => rfl
  | cons e l ih => rw [List.map_cons, List.all_cons, rightEs, ih]; rfl
theorem right_st (ok : SE → Bool) (oks : SS → Bool) (l : List SS) : (l.map Nd.st).all (Nd.right ok oks) = rightSs ok oks l := by
  induction l with
  | nil => rfl
  | cons e l ih => rw [List.map_cons, List.all_cons, rightSs, ih]; rfl
theorem Nd.right_kids (ok : SE → Bool) (oks : SS → Bool) (n : Nd) : n.right ok oks = (n.own ok oks && n.kids.all (Nd.right ok oks)) := by
  cases n with
  | ex e => obtain ⟨_, _, _, _, _, l⟩ := e; show rightE ok _ = _; rw [rightE]; unfold Nd.kids; rw [right_ex]; rfl
  | st s => obtain ⟨_, _, _, _, _, _, i, x, t, e⟩ := s; show rightS ok oks _ = _; rw [rightS]; unfold Nd.kids; rw [List.all_append, List.all_append, List.all_append, right_ex, right_ex, right_st, right_st]; rfl
/-- A node and all below it are of p. -/
inductive AllN (p : Nd → Prop) : Nd → Prop
  | mk (x : Nd) (h : p x) (k : ∀ y ∈ x.kids, AllN p y) : AllN p x
theorem AllN.own {p : Nd → Prop} {x : Nd} (h : AllN p x) : p x := by cases h; assumption
theorem AllN.kid {p : Nd → Prop} {x y : Nd} (h : AllN p x) (hy : y ∈ x.kids) : AllN p y := by cases h with | mk _ _ k => exact k y hy
def ndOfPtr (p q : Option Addr) : Nd → Prop
  | .ex _ => q = none ∧ ∃ a, p = some a
  | .st _ => p = none ∧ ∃ a, q = some a
/-- What expr and stmt say of nodes of p. -/
structure Owns (ok : SE → Bool) (oks : SS → Bool) (p : Nd → Prop) : Prop where
  ex : ∀ (a : Addr) (e : SE) (w : World), Keys w → p (.ex e) → PtAt kE w a e → Calls Tryd.prog 123 #[.pointer (some a)] w fun r w' => r = .returned (.bool (ok e)) ∧ Below w.heap.size w w'
  st : ∀ (a : Addr) (s : SS) (w : World), Keys w → p (.st s) → PtAt kS w a s → Calls Tryd.prog 124 #[.pointer (some a)] w fun r w' => r = .returned (.bool (oks s)) ∧ Below w.heap.size w w'
def allR {G : Nd → Prop} {w : World} (ok : SE → Bool) (oks : SS → Bool) (l : List (At w G)) : Bool := l.all (fun y => y.1.2.right ok oks)
theorem allR_append {G : Nd → Prop} {w : World} (ok : SE → Bool) (oks : SS → Bool) (l m : List (At w G)) : allR ok oks (l ++ m) = (allR ok oks l && allR ok oks m) := by unfold allR; rw [List.all_append]
theorem allR_snoc {G : Nd → Prop} {w : World} (ok : SE → Bool) (oks : SS → Bool) (l : List (At w G)) (y : At w G) : allR ok oks (l ++ [y]) = (allR ok oks l && y.1.2.right ok oks) := by rw [allR_append]; unfold allR; simp
set_option maxRecDepth 100000 in
set_option maxHeartbeats 4000000 in
theorem right_in (ok : SE → Bool) (oks : SS → Bool) (P : Nd → Prop) (O : Owns ok oks P) : ∀ (D : Nat) (x : Nd) (v : Value) (w : World), x.deep ≤ D → Keys w → AllN P x → NdAt w v x → Calls Tryd.prog 102 #[v] w fun e w' => e = .returned (.bool (x.right ok oks)) ∧ Below w.heap.size w w' := by
  intro D; induction D with
  | zero => intro x v w h; have := x.deep_eq; omega
  | succ D ih =>
    intro x v w hD hG hP hN
    rw [x.right_kids]
    have HNd := Lx.Hd.mk hN
    cases x with
    | ex e =>
      obtain ⟨a, rfl, hp⟩ := hN
      refine (callsIn_wide (n := 9)).1 ?_
      refine callsIn_of_wp_marks Tryd.func102 rfl trivial ?_ rfl
      simp only [Tryd.ntmps102, List.size_toArray, List.length_cons, List.length_nil, Nat.reduceAdd, Nat.reduceSub, Array.replicate_succ, Array.replicate_zero, List.push_toArray, List.append_toArray, List.nil_append, List.cons_append]
      have hE := fun W (hb : Below w.heap.size w W) => O.ex a e W (Keys.below hG hb) hP.own (hp.below hb)
      have HE := Lx.Hd.mk hE
      clear hE hp
      have hb0 : Boxed ((w.alloc (.cells #[.pointer (some a), .pointer none] 85)).alloc (.cells #[.bool false] 4)) (w.heap.size + 1) 4 (.bool false) := by have := World.alloc_heap_new (w.alloc (.cells #[.pointer (some a), .pointer none] 85)) (.cells #[.bool false] 4); rwa [World.size_alloc] at this
      have hn0 := cells_new2 w (.pointer (some a)) (.pointer none) 85
      have hB0 : Below w.heap.size w ((w.alloc (.cells #[.pointer (some a), .pointer none] 85)).alloc (.cells #[.bool false] 4)) := ((Below.refl _ w).alloc (Nat.le_refl _) _).alloc (by simp) _
      have Hb0 := Lx.Hd.mk hb0
      have Hn0 := Lx.Hd.mk (And.intro (cell_alloc_a (.cells #[.bool false] 4) hn0.1) (cell_alloc_a (.cells #[.bool false] 4) hn0.2))
      have HB0 := Lx.Hd.mk hB0
      clear hb0 hn0 hB0
      cases hok : ok e
      · refine wpIn_wide.2 ?_
        go_wp2_with (first | (go_at_call 123; refine (HE.out _ (by exact HB0.out)).mono ?_; rw [hok]; rintro e' w1 ⟨rfl, hb⟩; have hbx : Boxed w1 (w.heap.size + 1) 4 (.bool false) := (hb.block _ Hb0.out.lt).trans Hb0.out; have hc1 := hbx.cell; have hf1 := hbx.frozen; have HB1 := Lx.Hd.mk (HB0.out.trans (hb.mono HB0.out.size)); clear hb hbx))
        have hc2 := World.cell?_setCell_same' w1 ⟨w.heap.size + 1, 0, none⟩ (.bool false) (by rw [hc1]; rfl)
        refine ⟨.bool false, by simp [results, Tryd.f102, go_sem, hc2], ?_, HB1.out.setCell (p := ⟨w.heap.size + 1, 0, none⟩) (by simp) _⟩
        show Ending.returned (.bool false) = .returned (.bool (ok e && _))
        rw [hok]; rfl
      · refine wpIn_wide.2 ?_
        go_upto_region 3 with (first | (go_at_call 123; refine (HE.out _ (by exact HB0.out)).mono ?_; rw [hok]; rintro e' w1 ⟨rfl, hb⟩; have hbx : Boxed w1 (w.heap.size + 1) 4 (.bool false) := (hb.block _ Hb0.out.lt).trans Hb0.out; have hn1 := pw_cell_below hb Hn0.out.1; have hn2 := pw_cell_below hb Hn0.out.2; have Hb1 := Lx.Hd.mk hbx; have HB1 := Lx.Hd.mk (HB0.out.trans (hb.mono HB0.out.size)); clear hb hbx))
        refine (wpIn_wide (n := 9)).1 ?_
        gi_wp2_with (refine ⟨trivial, ?_⟩; gi_at_call 105; refine (children_any _ _ _ _).mono ?_; rintro e' w' ⟨rfl, rfl⟩)
        obtain ⟨W0, hW0⟩ : ∃ W0, w1.alloc (.cells #[.pointer (some a), .pointer none] 85) = W0 := ⟨_, rfl⟩
        have hsz : w1.heap.size < W0.heap.size := by rw [← hW0]; simp
        have hlt1 := Hb1.out.lt
        have hw0 : Below w.heap.size w W0 := by rw [← hW0]; exact HB1.out.trans (((Below.refl _ w1).alloc (Nat.le_refl _) _).mono HB1.out.size)
        have hn3 := cells_new2 w1 (.pointer (some a)) (.pointer none) 85
        have hbx0 : Boxed W0 (w.heap.size + 1) 4 (.bool false) := by rw [← hW0]; exact Hb1.out.alloc _
        rw [hW0] at hn3 ⊢
        have hkid : ∀ y ∈ (Nd.ex e).kids, y.deep ≤ D ∧ AllN P y := fun y hy => ⟨by have := Nd.deep_kids hy; omega, hP.kid hy⟩
        obtain ⟨xs, hxs, hseq⟩ := seq_stops 8 (fun y => y.deep ≤ D ∧ AllN P y) (Nd.ex e) hkid (.agg #[.pointer (some a), .pointer none]) (.pointer (some a)) (.pointer none) w W0 (w.heap.size + 1) w1.heap.size rfl HNd.out hw0 (by omega) (by omega) (by omega) (by omega) hn3.1 hn3.2
        have hall : (Nd.ex e).kids.all (Nd.right ok oks) = allR ok oks xs := by unfold allR; rw [← hxs, List.all_map]; rfl
        have HALL := Lx.Hd.mk hall
        clear hall hn1 hn2 hn3
        refine (wpIn_wide (n := 9)).1 ?_
        gi_wp2
        refine wpIn_rangeFunc_ownH (F := Fence.wide) rfl (by omega) (gf := 125) (lb := #[.pointer (some ⟨w1.heap.size, 0, none⟩)]) rfl trivial (enters_of Tryd.func125 (by kernel_rfl) rfl)
          hseq KpB.trans (fun W l o o' _ h hc _ => KpB.putObj W l o o' h hc) (Below.refl _ _) (fun _ => rfl)
          (fun pre W => allR ok oks pre = true ∧ Boxed W (w.heap.size + 1) 4 (.bool false) ∧ Below w.heap.size w W ∧ W0.heap.size ≤ W.heap.size)
          (fun c pre W => c = .ret ∧ allR ok oks pre = false ∧ Boxed W (w.heap.size + 1) 4 (.bool false) ∧ Below w.heap.size w W)
          (OwnFrom.and (fun _ _ _ _ hs _ _ => hs) (OwnFrom.and (Own.from (boxed_own _ _ _) _) (OwnFrom.and (ownFrom_below (Nat.le_refl _) (by omega)) (fun _ _ _ _ hs hg _ => Nat.le_trans hs hg.size))))
          (fun c => OwnFrom.and (fun _ _ _ _ hs _ _ => hs) (OwnFrom.and (fun _ _ _ _ hs _ _ => hs) (OwnFrom.and (Own.from (boxed_own _ _ _) _) (ownFrom_below (Nat.le_refl _) (by omega)))))
          ⟨rfl, hbx0, hw0, Nat.le_refl _⟩
          (fun y a' W => ∃ Bx py qy, y.1.1 = .agg #[.pointer py, .pointer qy] ∧ W.heap[Bx]? = some (.cells #[.pointer py, .pointer qy] 85 (0, 0)) ∧ W0.heap.size ≤ Bx ∧
            a' = { tmps := #[.agg #[.pointer (some a), .pointer none], .pointer (some ⟨w.heap.size, 0, none⟩), .pointer (some ⟨w.heap.size + 1, 0, none⟩), .pointer (some ⟨Bx, 0, none⟩), .pointer (some ⟨w.heap.size, 0, none⟩), .pointer (some a), .bool true, .bool true, .pointer (some ⟨w.heap.size, 0, none⟩), .pointer (some a), .bool true, .bool false, .bool false, .bool false, .pointer (some ⟨w.heap.size, 1, none⟩), .pointer none, .bool false, .bool false, undef, undef, undef, undef, .bool false, .bool false, .agg #[.pointer (some a), .pointer none], .func (.func 125) #[] #[.pointer (some ⟨w1.heap.size, 0, none⟩)], y.1.1, undef, undef, undef], defers := [] })
          (fun y a' s W W' row hs hg hr => by
            obtain ⟨Bx, py, qy, h1, h2, h3, h4⟩ := hs
            exact ⟨Bx, py, qy, h1, (hg.block Bx (Array.getElem?_eq_some_iff.1 h2).1 (fun e => by obtain ⟨_, o, ho, hc⟩ := hr Bx e.symm; rw [h2] at ho; cases ho; cases hc)).trans h2, h3, h4⟩) ?assign ?body ?done ?stop
        case assign =>
          rintro l pre y W K ⟨hi1, hi2, hi3, hi4⟩ hK
          obtain ⟨py, qy, hy⟩ := y.2.1.agg
          rw [hy]
          gi_wp2
          exact hK _ _ ((KeepsOthers.alloc _ _).from _) (KpB.of_below ((Below.refl _ W).alloc (Nat.le_refl _) _)) ⟨hi1, hi2.alloc _, hi3.trans (((Below.refl _ W).alloc (Nat.le_refl _) _).mono hi3.size), by simp; omega⟩ ⟨W.heap.size, py, qy, hy, World.alloc_heap_new _ _, hi4, by rw [hy]⟩
        case body =>
          rintro l pre y a' W hl ⟨r, hr⟩ ⟨hi1, hi2, hi3, hi4⟩ ⟨Bx, py, qy, hy, hx, hBx, rfl⟩ hlt
          have hc := hi2.cell
          have hf := hi2.frozen
          have hx0 : W.cell? ⟨Bx, 0, none⟩ = some (.pointer py) := by unfold World.cell?; rw [hx]; rfl
          have hx1 : W.cell? ⟨Bx, 1, none⟩ = some (.pointer qy) := by unfold World.cell?; rw [hx]; rfl
          have HI1 := Lx.Hd.mk hi1
          clear hi1
          cases hrt : y.1.2.right ok oks
          · rw [hy]
            gi_wp2_with (refine ⟨trivial, ?_⟩; gi_at_call 102; refine (CallsIn.inRound l (callsIn_wide.2 (ih y.1.2 _ _ y.2.2.1 (Keys.below hG (by exact hi3)) y.2.2.2 (by rw [← hy]; exact y.2.1.below hi3)))).mono ?_; rw [hrt]; rintro e' W3 ⟨rfl, hb3⟩; have hc3 : W3.cell? ⟨w.heap.size + 1, 0, none⟩ = some (.bool false) := (hb3.cell (p := ⟨w.heap.size + 1, 0, none⟩) hi2.lt).trans hc; have hf3 : W3.frozen? ⟨w.heap.size + 1, 0, none⟩ = false := (hb3.frozen (p := ⟨w.heap.size + 1, 0, none⟩) hi2.lt).trans hf; have HB3 := Lx.Hd.mk hb3; clear hb3)
            have hB : Below W.heap.size W W3 := HB3.out
            exact ⟨((keeps_of_below hB).trans (KeepsOthers.setCell _ _ _)).from _, rfl, by rw [allR_snoc, hrt, Bool.and_false], blk_put (cs := #[.bool false]) ((hB.block _ hi2.lt).trans hi2) 0 _ rfl, (hi3.trans (hB.mono hi3.size)).setCell (p := ⟨w.heap.size + 1, 0, none⟩) (Nat.le_succ _) _⟩
          · rw [hy]
            gi_wp2_with (refine ⟨trivial, ?_⟩; gi_at_call 102; refine (CallsIn.inRound l (callsIn_wide.2 (ih y.1.2 _ _ y.2.2.1 (Keys.below hG (by exact hi3)) y.2.2.2 (by rw [← hy]; exact y.2.1.below hi3)))).mono ?_; rw [hrt]; rintro e' W3 ⟨rfl, hb3⟩; have hc3 : W3.cell? ⟨w.heap.size + 1, 0, none⟩ = some (.bool false) := (hb3.cell (p := ⟨w.heap.size + 1, 0, none⟩) hi2.lt).trans hc; have hf3 : W3.frozen? ⟨w.heap.size + 1, 0, none⟩ = false := (hb3.frozen (p := ⟨w.heap.size + 1, 0, none⟩) hi2.lt).trans hf; have HB3 := Lx.Hd.mk hb3; clear hb3)
            have hB : Below W.heap.size W W3 := HB3.out
            exact ⟨(keeps_of_below hB).from _, KpB.of_below hB, by rw [allR_snoc, HI1.out, hrt]; rfl, (hB.block _ hi2.lt).trans hi2, hi3.trans (hB.mono hi3.size), Nat.le_trans hi4 hB.size⟩
        case done =>
          rintro D' ys W hD' rfl ⟨h1, h2, h3, h4⟩ hK
          have hc := h2.cell
          have hf := h2.frozen
          have HA := Lx.Hd.mk h1
          clear h1
          go_wp2
          have hK' := (KeepsOthers.setCell W ⟨w.heap.size + 1, 0, none⟩ (.bool true)).same D' _ hK rfl
          refine ⟨by simp, .inl ⟨_, _, rfl, run_takeDeferred hK', ?_⟩⟩
          have hc5 := cell_kept (World.cell?_setCell_same' W ⟨w.heap.size + 1, 0, none⟩ (.bool true) (by rw [hc]; rfl)) (grownBy_putObj' _ D' (.deferred none)) (fun r e => by cases e; exact ⟨_, hK', rfl⟩)
          refine ⟨.bool true, by simp [results, Tryd.f102, go_sem, hc5], ?_, (h3.setCell (p := ⟨w.heap.size + 1, 0, none⟩) (by simp) _).trans (belowK_b (w := w) (Nat.le_refl _) _ D' _ _ (by omega) hK' rfl rfl)⟩
          show Ending.returned (.bool true) = .returned (.bool (ok e && (Nd.ex e).kids.all (Nd.right ok oks)))
          rw [hok, HALL.out, HA.out]; rfl
        case stop =>
          rintro D' c pre W hD' hpre ⟨rfl, hfa, h2, h3⟩ hK
          have hc := h2.cell
          have HA := Lx.Hd.mk hfa
          clear hfa
          refine wpIn_wide.2 ?_
          go_wp2
          refine ⟨by simp, .inl ⟨_, _, rfl, run_takeDeferred hK, ?_⟩⟩
          have hc5 := cell_kept hc (grownBy_putObj' _ D' (.deferred none)) (fun r e => by cases e; exact ⟨_, hK, rfl⟩)
          refine ⟨.bool false, by simp [results, Tryd.f102, go_sem, hc5], ?_, h3.trans (belowK_b (w := w) (Nat.le_refl _) W D' _ _ (by omega) hK rfl rfl)⟩
          show Ending.returned (.bool false) = .returned (.bool (ok e && (Nd.ex e).kids.all (Nd.right ok oks)))
          have hz : allR ok oks xs = false := by
            obtain ⟨z, hz⟩ := hpre
            rw [← hz, allR_append, HA.out]; rfl
          rw [hok, HALL.out, hz]; rfl
    | st s =>
      obtain ⟨a, rfl, hp⟩ := hN
      refine (callsIn_wide (n := 9)).1 ?_
      refine callsIn_of_wp_marks Tryd.func102 rfl trivial ?_ rfl
      simp only [Tryd.ntmps102, List.size_toArray, List.length_cons, List.length_nil, Nat.reduceAdd, Nat.reduceSub, Array.replicate_succ, Array.replicate_zero, List.push_toArray, List.append_toArray, List.nil_append, List.cons_append]
      have hE := fun W (hb : Below w.heap.size w W) => O.st a s W (Keys.below hG hb) hP.own (hp.below hb)
      have HE := Lx.Hd.mk hE
      clear hE hp
      have hb0 : Boxed ((w.alloc (.cells #[.pointer none, .pointer (some a)] 85)).alloc (.cells #[.bool false] 4)) (w.heap.size + 1) 4 (.bool false) := by have := World.alloc_heap_new (w.alloc (.cells #[.pointer none, .pointer (some a)] 85)) (.cells #[.bool false] 4); rwa [World.size_alloc] at this
      have hn0 := cells_new2 w (.pointer none) (.pointer (some a)) 85
      have hB0 : Below w.heap.size w ((w.alloc (.cells #[.pointer none, .pointer (some a)] 85)).alloc (.cells #[.bool false] 4)) := ((Below.refl _ w).alloc (Nat.le_refl _) _).alloc (by simp) _
      have Hb0 := Lx.Hd.mk hb0
      have Hn0 := Lx.Hd.mk (And.intro (cell_alloc_a (.cells #[.bool false] 4) hn0.1) (cell_alloc_a (.cells #[.bool false] 4) hn0.2))
      have HB0 := Lx.Hd.mk hB0
      clear hb0 hn0 hB0
      cases hok : oks s
      · refine wpIn_wide.2 ?_
        go_wp2_with (first | (go_at_call 124; refine (HE.out _ (by exact HB0.out)).mono ?_; rw [hok]; rintro e' w1 ⟨rfl, hb⟩; have hbx : Boxed w1 (w.heap.size + 1) 4 (.bool false) := (hb.block _ Hb0.out.lt).trans Hb0.out; have hc1 := hbx.cell; have hf1 := hbx.frozen; have HB1 := Lx.Hd.mk (HB0.out.trans (hb.mono HB0.out.size)); clear hb hbx))
        have hc2 := World.cell?_setCell_same' w1 ⟨w.heap.size + 1, 0, none⟩ (.bool false) (by rw [hc1]; rfl)
        refine ⟨.bool false, by simp [results, Tryd.f102, go_sem, hc2], ?_, HB1.out.setCell (p := ⟨w.heap.size + 1, 0, none⟩) (by simp) _⟩
        show Ending.returned (.bool false) = .returned (.bool (oks s && _))
        rw [hok]; rfl
      · refine wpIn_wide.2 ?_
        go_upto_region 3 with (first | (go_at_call 124; refine (HE.out _ (by exact HB0.out)).mono ?_; rw [hok]; rintro e' w1 ⟨rfl, hb⟩; have hbx : Boxed w1 (w.heap.size + 1) 4 (.bool false) := (hb.block _ Hb0.out.lt).trans Hb0.out; have hn1 := pw_cell_below hb Hn0.out.1; have hn2 := pw_cell_below hb Hn0.out.2; have Hb1 := Lx.Hd.mk hbx; have HB1 := Lx.Hd.mk (HB0.out.trans (hb.mono HB0.out.size)); clear hb hbx))
        refine (wpIn_wide (n := 9)).1 ?_
        gi_wp2_with (refine ⟨trivial, ?_⟩; gi_at_call 105; refine (children_any _ _ _ _).mono ?_; rintro e' w' ⟨rfl, rfl⟩)
        obtain ⟨W0, hW0⟩ : ∃ W0, w1.alloc (.cells #[.pointer none, .pointer (some a)] 85) = W0 := ⟨_, rfl⟩
        have hsz : w1.heap.size < W0.heap.size := by rw [← hW0]; simp
        have hlt1 := Hb1.out.lt
        have hw0 : Below w.heap.size w W0 := by rw [← hW0]; exact HB1.out.trans (((Below.refl _ w1).alloc (Nat.le_refl _) _).mono HB1.out.size)
        have hn3 := cells_new2 w1 (.pointer none) (.pointer (some a)) 85
        have hbx0 : Boxed W0 (w.heap.size + 1) 4 (.bool false) := by rw [← hW0]; exact Hb1.out.alloc _
        rw [hW0] at hn3 ⊢
        have hkid : ∀ y ∈ (Nd.st s).kids, y.deep ≤ D ∧ AllN P y := fun y hy => ⟨by have := Nd.deep_kids hy; omega, hP.kid hy⟩
        obtain ⟨xs, hxs, hseq⟩ := seq_stops 8 (fun y => y.deep ≤ D ∧ AllN P y) (Nd.st s) hkid (.agg #[.pointer none, .pointer (some a)]) (.pointer none) (.pointer (some a)) w W0 (w.heap.size + 1) w1.heap.size rfl HNd.out hw0 (by omega) (by omega) (by omega) (by omega) hn3.1 hn3.2
        have hall : (Nd.st s).kids.all (Nd.right ok oks) = allR ok oks xs := by unfold allR; rw [← hxs, List.all_map]; rfl
        have HALL := Lx.Hd.mk hall
        clear hall hn1 hn2 hn3
        refine (wpIn_wide (n := 9)).1 ?_
        gi_wp2
        refine wpIn_rangeFunc_ownH (F := Fence.wide) rfl (by omega) (gf := 125) (lb := #[.pointer (some ⟨w1.heap.size, 0, none⟩)]) rfl trivial (enters_of Tryd.func125 (by kernel_rfl) rfl)
          hseq KpB.trans (fun W l o o' _ h hc _ => KpB.putObj W l o o' h hc) (Below.refl _ _) (fun _ => rfl)
          (fun pre W => allR ok oks pre = true ∧ Boxed W (w.heap.size + 1) 4 (.bool false) ∧ Below w.heap.size w W ∧ W0.heap.size ≤ W.heap.size)
          (fun c pre W => c = .ret ∧ allR ok oks pre = false ∧ Boxed W (w.heap.size + 1) 4 (.bool false) ∧ Below w.heap.size w W)
          (OwnFrom.and (fun _ _ _ _ hs _ _ => hs) (OwnFrom.and (Own.from (boxed_own _ _ _) _) (OwnFrom.and (ownFrom_below (Nat.le_refl _) (by omega)) (fun _ _ _ _ hs hg _ => Nat.le_trans hs hg.size))))
          (fun c => OwnFrom.and (fun _ _ _ _ hs _ _ => hs) (OwnFrom.and (fun _ _ _ _ hs _ _ => hs) (OwnFrom.and (Own.from (boxed_own _ _ _) _) (ownFrom_below (Nat.le_refl _) (by omega)))))
          ⟨rfl, hbx0, hw0, Nat.le_refl _⟩
          (fun y a' W => ∃ Bx py qy, y.1.1 = .agg #[.pointer py, .pointer qy] ∧ W.heap[Bx]? = some (.cells #[.pointer py, .pointer qy] 85 (0, 0)) ∧ W0.heap.size ≤ Bx ∧
            a' = { tmps := #[.agg #[.pointer none, .pointer (some a)], .pointer (some ⟨w.heap.size, 0, none⟩), .pointer (some ⟨w.heap.size + 1, 0, none⟩), .pointer (some ⟨Bx, 0, none⟩), .pointer (some ⟨w.heap.size, 0, none⟩), .pointer none, .bool false, .bool false, undef, undef, undef, undef, .bool false, .bool false, .pointer (some ⟨w.heap.size, 1, none⟩), .pointer (some a), .bool true, .bool true, .pointer (some ⟨w.heap.size, 1, none⟩), .pointer (some a), .bool true, .bool false, .bool false, .bool false, .agg #[.pointer none, .pointer (some a)], .func (.func 125) #[] #[.pointer (some ⟨w1.heap.size, 0, none⟩)], y.1.1, undef, undef, undef], defers := [] })
          (fun y a' s W W' row hs hg hr => by
            obtain ⟨Bx, py, qy, h1, h2, h3, h4⟩ := hs
            exact ⟨Bx, py, qy, h1, (hg.block Bx (Array.getElem?_eq_some_iff.1 h2).1 (fun e => by obtain ⟨_, o, ho, hc⟩ := hr Bx e.symm; rw [h2] at ho; cases ho; cases hc)).trans h2, h3, h4⟩) ?assign ?body ?done ?stop
        case assign =>
          rintro l pre y W K ⟨hi1, hi2, hi3, hi4⟩ hK
          obtain ⟨py, qy, hy⟩ := y.2.1.agg
          rw [hy]
          gi_wp2
          exact hK _ _ ((KeepsOthers.alloc _ _).from _) (KpB.of_below ((Below.refl _ W).alloc (Nat.le_refl _) _)) ⟨hi1, hi2.alloc _, hi3.trans (((Below.refl _ W).alloc (Nat.le_refl _) _).mono hi3.size), by simp; omega⟩ ⟨W.heap.size, py, qy, hy, World.alloc_heap_new _ _, hi4, by rw [hy]⟩
        case body =>
          rintro l pre y a' W hl ⟨r, hr⟩ ⟨hi1, hi2, hi3, hi4⟩ ⟨Bx, py, qy, hy, hx, hBx, rfl⟩ hlt
          have hc := hi2.cell
          have hf := hi2.frozen
          have hx0 : W.cell? ⟨Bx, 0, none⟩ = some (.pointer py) := by unfold World.cell?; rw [hx]; rfl
          have hx1 : W.cell? ⟨Bx, 1, none⟩ = some (.pointer qy) := by unfold World.cell?; rw [hx]; rfl
          have HI1 := Lx.Hd.mk hi1
          clear hi1
          cases hrt : y.1.2.right ok oks
          · rw [hy]
            gi_wp2_with (refine ⟨trivial, ?_⟩; gi_at_call 102; refine (CallsIn.inRound l (callsIn_wide.2 (ih y.1.2 _ _ y.2.2.1 (Keys.below hG (by exact hi3)) y.2.2.2 (by rw [← hy]; exact y.2.1.below hi3)))).mono ?_; rw [hrt]; rintro e' W3 ⟨rfl, hb3⟩; have hc3 : W3.cell? ⟨w.heap.size + 1, 0, none⟩ = some (.bool false) := (hb3.cell (p := ⟨w.heap.size + 1, 0, none⟩) hi2.lt).trans hc; have hf3 : W3.frozen? ⟨w.heap.size + 1, 0, none⟩ = false := (hb3.frozen (p := ⟨w.heap.size + 1, 0, none⟩) hi2.lt).trans hf; have HB3 := Lx.Hd.mk hb3; clear hb3)
            have hB : Below W.heap.size W W3 := HB3.out
            exact ⟨((keeps_of_below hB).trans (KeepsOthers.setCell _ _ _)).from _, rfl, by rw [allR_snoc, hrt, Bool.and_false], blk_put (cs := #[.bool false]) ((hB.block _ hi2.lt).trans hi2) 0 _ rfl, (hi3.trans (hB.mono hi3.size)).setCell (p := ⟨w.heap.size + 1, 0, none⟩) (Nat.le_succ _) _⟩
          · rw [hy]
            gi_wp2_with (refine ⟨trivial, ?_⟩; gi_at_call 102; refine (CallsIn.inRound l (callsIn_wide.2 (ih y.1.2 _ _ y.2.2.1 (Keys.below hG (by exact hi3)) y.2.2.2 (by rw [← hy]; exact y.2.1.below hi3)))).mono ?_; rw [hrt]; rintro e' W3 ⟨rfl, hb3⟩; have hc3 : W3.cell? ⟨w.heap.size + 1, 0, none⟩ = some (.bool false) := (hb3.cell (p := ⟨w.heap.size + 1, 0, none⟩) hi2.lt).trans hc; have hf3 : W3.frozen? ⟨w.heap.size + 1, 0, none⟩ = false := (hb3.frozen (p := ⟨w.heap.size + 1, 0, none⟩) hi2.lt).trans hf; have HB3 := Lx.Hd.mk hb3; clear hb3)
            have hB : Below W.heap.size W W3 := HB3.out
            exact ⟨(keeps_of_below hB).from _, KpB.of_below hB, by rw [allR_snoc, HI1.out, hrt]; rfl, (hB.block _ hi2.lt).trans hi2, hi3.trans (hB.mono hi3.size), Nat.le_trans hi4 hB.size⟩
        case done =>
          rintro D' ys W hD' rfl ⟨h1, h2, h3, h4⟩ hK
          have hc := h2.cell
          have hf := h2.frozen
          have HA := Lx.Hd.mk h1
          clear h1
          go_wp2
          have hK' := (KeepsOthers.setCell W ⟨w.heap.size + 1, 0, none⟩ (.bool true)).same D' _ hK rfl
          refine ⟨by simp, .inl ⟨_, _, rfl, run_takeDeferred hK', ?_⟩⟩
          have hc5 := cell_kept (World.cell?_setCell_same' W ⟨w.heap.size + 1, 0, none⟩ (.bool true) (by rw [hc]; rfl)) (grownBy_putObj' _ D' (.deferred none)) (fun r e => by cases e; exact ⟨_, hK', rfl⟩)
          refine ⟨.bool true, by simp [results, Tryd.f102, go_sem, hc5], ?_, (h3.setCell (p := ⟨w.heap.size + 1, 0, none⟩) (by simp) _).trans (belowK_b (w := w) (Nat.le_refl _) _ D' _ _ (by omega) hK' rfl rfl)⟩
          show Ending.returned (.bool true) = .returned (.bool (oks s && (Nd.st s).kids.all (Nd.right ok oks)))
          rw [hok, HALL.out, HA.out]; rfl
        case stop =>
          rintro D' c pre W hD' hpre ⟨rfl, hfa, h2, h3⟩ hK
          have hc := h2.cell
          have HA := Lx.Hd.mk hfa
          clear hfa
          refine wpIn_wide.2 ?_
          go_wp2
          refine ⟨by simp, .inl ⟨_, _, rfl, run_takeDeferred hK, ?_⟩⟩
          have hc5 := cell_kept hc (grownBy_putObj' _ D' (.deferred none)) (fun r e => by cases e; exact ⟨_, hK, rfl⟩)
          refine ⟨.bool false, by simp [results, Tryd.f102, go_sem, hc5], ?_, h3.trans (belowK_b (w := w) (Nat.le_refl _) W D' _ _ (by omega) hK rfl rfl)⟩
          show Ending.returned (.bool false) = .returned (.bool (oks s && (Nd.st s).kids.all (Nd.right ok oks)))
          have hz : allR ok oks xs = false := by
            obtain ⟨z, hz⟩ := hpre
            rw [← hz, allR_append, HA.out]; rfl
          rw [hok, HALL.out, hz]; rfl
end Go.Proofs.YtgkhpecllhiidaaDoor.A
