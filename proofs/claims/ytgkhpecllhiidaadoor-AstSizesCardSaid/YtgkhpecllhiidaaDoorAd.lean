/- Package ast: (node).children, (node).size. -/
import Derived.Test.YtgkhpecllhiidaaDoorAc
set_option linter.unusedVariables false
set_option linter.unusedSimpArgs false
namespace Go.Proofs.YtgkhpecllhiidaaDoor.A
open Go.RowKit Go.Shelf Go.Proofs.YtgkhpecllhiidaaDoor.As Go.Proofs.YtgkhpecllhiidaaDoorW.PrintWords Go.Proofs.YtgkhpecllhiidaaDoorW.PrintLast Go.Proofs.YtgkhpecllhiidaaDoorW.PrintMore
attribute [local go_sem] Oper.semAt_some

theorem children_any (n : Nat) (p q : Value) (w : World) :
    CallsIn Fence.wide n Tryd.prog 105 #[.agg #[p, q]] w fun e w' => e = .returned (.func (.func 125) #[] #[.pointer (some ⟨w.heap.size, 0, none⟩)]) ∧ w' = w.alloc (.cells #[p, q] 85) := by
  refine callsIn_of_wp Tryd.func105 rfl trivial ?_ rfl
  simp only [Tryd.ntmps105, List.size_toArray, List.length_cons, List.length_nil, Nat.reduceAdd, Nat.reduceSub, Array.replicate_succ, Array.replicate_zero, List.push_toArray, List.append_toArray, List.nil_append, List.cons_append]
  gi_wp2
  go_ret
  exact ⟨rfl, rfl⟩
theorem cells_new2 (W : World) (p q : Value) (t : TypeId) : (W.alloc (.cells #[p, q] t)).cell? ⟨W.heap.size, 0, none⟩ = some p ∧ (W.alloc (.cells #[p, q] t)).cell? ⟨W.heap.size, 1, none⟩ = some q := by
  have h : (W.alloc (.cells #[p, q] t)).heap[W.heap.size]? = some (.cells #[p, q] t (0, 0)) := World.alloc_heap_new W _
  constructor <;> (unfold World.cell?; rw [h]; rfl)
theorem lt_of_cell {w : World} {p : Addr} {v : Value} (h : w.cell? p = some v) : p.block < w.heap.size := by
  rcases Nat.lt_or_ge p.block w.heap.size with h' | h'
  · exact h'
  · unfold World.cell? at h
    rw [Array.getElem?_eq_none h'] at h
    cases h
theorem NdAt.agg {w : World} {v : Value} {x : Nd} (h : NdAt w v x) : ∃ p q : Option Addr, v = .agg #[.pointer p, .pointer q] := by
  cases x with
  | ex e => obtain ⟨a, rfl, _⟩ := h; exact ⟨_, _, rfl⟩
  | st s => obtain ⟨a, rfl, _⟩ := h; exact ⟨_, _, rfl⟩
/-- The children come, one after the other: w lay at the call's start; w1 holds the node's box at Bn. -/
theorem seq_stops (n : Nat) (G : Nd → Prop) (x : Nd) (hG : ∀ y ∈ x.kids, G y) (v p q : Value) (w w1 : World) (Bc Bn : Nat) (hv : v = .agg #[p, q]) (hN : NdAt w v x) (hw : Below w.heap.size w w1) (hBc : w.heap.size ≤ Bc) (hBl : Bc < w1.heap.size) (hBn : Bn ≠ Bc) (hBn1 : Bn < w1.heap.size) (h0 : w1.cell? ⟨Bn, 0, none⟩ = some p) (h1 : w1.cell? ⟨Bn, 1, none⟩ = some q) :
    ∃ xs : List (At w G), xs.map (·.1.2) = x.kids ∧ SeqStopsK Fence.wide n Tryd.prog 125 #[.pointer (some ⟨Bn, 0, none⟩)] (fun y : At w G => #[y.1.1]) (KpB Bc) (fun ys => ys = xs) (fun pre => pre <+: xs) xs.length w1 := by
  cases x with
  | ex e =>
    obtain ⟨a, rfl, cs, hK, hc⟩ := hN
    injection hv with hv
    have hp : p = .pointer (some a) := by injection hv with hv; injection hv with h _; exact h.symm
    obtain ⟨A5, c5, rfl, hl5, hC⟩ := k25_open hK
    have hcell : w.cell? ⟨a.block, a.off + 5, none⟩ = some (.slice A5 e.f5.length c5) := by have := hc 5 _ rfl; rwa [add_ne a 5 (by decide)] at this
    obtain ⟨xs, e1, e2, e3, e4⟩ := kid_list hC G .ex (fun ad => .agg #[.pointer (some ad), .pointer none]) (fun y hy => hG _ (List.mem_map.2 ⟨y, hy, rfl⟩)) (fun a y h => ⟨a, rfl, h⟩)
    refine ⟨xs, e1, fun l J Jx W hW hJ hJx hY hJ0 => ?_⟩
    have hlt : xs.length ≤ 9223372036854775807 := by rw [e2]; have := hC.2.1; omega
    refine callsIn_wide.2 ?_
    refine seq_ex (fun y : At w G => y.1.1) xs Bc Bn a A5 c5 (n - 1) l J Jx W hJ hY hJ0 (Nat.lt_of_lt_of_le hBl hW.size) ?_ ?_ e3 hlt e4
    · rw [← hp]; exact (hW.cell (p := ⟨Bn, 0, none⟩) hBn1).trans h0
    · rw [e2]; exact pw_cell_below (hw.trans (hW.mono hw.size)) hcell
  | st s =>
    obtain ⟨a, rfl, cs, hK, hc⟩ := hN
    injection hv with hv
    have hp : p = .pointer none := by injection hv with hv; injection hv with h _; exact h.symm
    have hq : q = .pointer (some a) := by injection hv with hv; injection hv with _ h; injection h with h _; exact h.symm
    obtain ⟨A5, c5, A6, c6, A7, c7, A8, c8, A9, c9, rfl, l5, C5, l6, C6, l7, C7, l8, C8, l9, C9⟩ := k38_open hK
    have s6 : w.cell? ⟨a.block, a.off + 6, none⟩ = some (.slice A6 s.f6.length c6) := by have := hc 6 _ rfl; rwa [add_ne a 6 (by decide)] at this
    have s7 : w.cell? ⟨a.block, a.off + 7, none⟩ = some (.slice A7 s.f7.length c7) := by have := hc 7 _ rfl; rwa [add_ne a 7 (by decide)] at this
    have s8 : w.cell? ⟨a.block, a.off + 8, none⟩ = some (.slice A8 s.f8.length c8) := by have := hc 8 _ rfl; rwa [add_ne a 8 (by decide)] at this
    have s9 : w.cell? ⟨a.block, a.off + 9, none⟩ = some (.slice A9 s.f9.length c9) := by have := hc 9 _ rfl; rwa [add_ne a 9 (by decide)] at this
    have hlt := lt_of_cell s6
    have mem : ∀ y, y ∈ s.f6.map Nd.ex ∨ y ∈ s.f7.map Nd.ex ∨ y ∈ s.f8.map Nd.st ∨ y ∈ s.f9.map Nd.st → y ∈ (Nd.st s).kids := by
      intro y hy; unfold Nd.kids; simp only [List.mem_append]; rcases hy with h | h | h | h
      · exact .inl (.inl (.inl h))
      · exact .inl (.inl (.inr h))
      · exact .inl (.inr h)
      · exact .inr h
    obtain ⟨x6, a1, a2, a3, a4⟩ := kid_list C6 G .ex (fun ad => .agg #[.pointer (some ad), .pointer none]) (fun y hy => hG _ (mem _ (.inl (List.mem_map.2 ⟨y, hy, rfl⟩)))) (fun a y h => ⟨a, rfl, h⟩)
    obtain ⟨x7, b1, b2, b3, b4⟩ := kid_list C7 G .ex (fun ad => .agg #[.pointer (some ad), .pointer none]) (fun y hy => hG _ (mem _ (.inr (.inl (List.mem_map.2 ⟨y, hy, rfl⟩))))) (fun a y h => ⟨a, rfl, h⟩)
    obtain ⟨x8, d1, d2, d3, d4⟩ := kid_list C8 G .st (fun ad => .agg #[.pointer none, .pointer (some ad)]) (fun y hy => hG _ (mem _ (.inr (.inr (.inl (List.mem_map.2 ⟨y, hy, rfl⟩)))))) (fun a y h => ⟨a, rfl, h⟩)
    obtain ⟨x9, e1, e2, e3, e4⟩ := kid_list C9 G .st (fun ad => .agg #[.pointer none, .pointer (some ad)]) (fun y hy => hG _ (mem _ (.inr (.inr (.inr (List.mem_map.2 ⟨y, hy, rfl⟩)))))) (fun a y h => ⟨a, rfl, h⟩)
    have m6 := C6.2.1
    have m7 := C7.2.1
    have m8 := C8.2.1
    have m9 := C9.2.1
    refine ⟨x6 ++ x7 ++ x8 ++ x9, by simp only [List.map_append, a1, b1, d1, e1]; rfl, fun l J Jx W hW hJ hJx hY hJ0 => ?_⟩
    have up : ∀ {ad : Addr} {u : Value}, w.cell? ad = some u → W.cell? ad = some u := fun h => pw_cell_below (hw.trans (hW.mono hw.size)) h
    refine callsIn_wide.2 ?_
    refine seq_st (fun y : At w G => y.1.1) x6 x7 x8 x9 Bc Bn a A6 A7 A8 A9 c6 c7 c8 c9 (n - 1) l J Jx W hJ hY hJ0 (Nat.lt_of_lt_of_le hBl hW.size) hBn (by show a.block ≠ Bc; have : a.block < w.heap.size := hlt; omega) ?_ ?_ (by rw [a2]; exact up s6) (by rw [b2]; exact up s7) (by rw [d2]; exact up s8) (by rw [e2]; exact up s9)
      ⟨a3, by omega, fun i h ad e => a4 i h ad e⟩ ⟨b3, by omega, fun i h ad e => b4 i h ad e⟩ ⟨d3, by omega, fun i h ad e => d4 i h ad e⟩ ⟨e3, by omega, fun i h ad e => e4 i h ad e⟩
    · rw [← hp]; exact (hW.cell (p := ⟨Bn, 0, none⟩) hBn1).trans h0
    · rw [← hq]; exact (hW.cell (p := ⟨Bn, 1, none⟩) hBn1).trans h1
theorem keeps_of_below {W W' : World} (h : Below W.heap.size W W') : KeepsOthers W W' := ⟨h.size, fun k o hk _ => (h.block k (Array.getElem?_eq_some_iff.1 hk).1).trans hk⟩
theorem _root_.Go.Proofs.YtgkhpecllhiidaaDoor.As.KpB.setB {B0 : Nat} (W : World) (j : Nat) (u : Value) : KpB B0 W (W.setCell ⟨B0, j, none⟩ u) :=
  ⟨by simp, fun b cs t q hb hc => (Below.heap_setCell W ⟨B0, j, none⟩ u b hb).trans hc⟩
/-- A sum as the code reckons it. -/
def wsum {G : Nd → Prop} {w : World} (l : List (At w G)) : Int := l.foldl (fun s y => IntKind.i64.wrap (s + (y.1.2.size : Int))) 1
theorem wsum_snoc {G : Nd → Prop} {w : World} (l : List (At w G)) (y : At w G) : wsum (l ++ [y]) = IntKind.i64.wrap (wsum l + (y.1.2.size : Int)) := by unfold wsum; rw [List.foldl_append]; rfl
theorem wsum_from {G : Nd → Prop} {w : World} (l : List (At w G)) : ∀ (c : Nat), c + sizes (l.map (·.1.2)) < 4611686018427387904 → l.foldl (fun s y => IntKind.i64.wrap (s + (y.1.2.size : Int))) (c : Int) = ((c + sizes (l.map (·.1.2)) : Nat) : Int) := by
  induction l with
  | nil => intro c h; rfl
  | cons y l ih =>
    intro c h
    have e : sizes ((y :: l).map (·.1.2)) = y.1.2.size + sizes (l.map (·.1.2)) := rfl
    rw [e] at h ⊢
    have hw : IntKind.i64.wrap ((c : Int) + (y.1.2.size : Int)) = ((c + y.1.2.size : Nat) : Int) := by rw [i64_w]; unfold wrap64; omega
    rw [List.foldl_cons, hw, ih (c + y.1.2.size) (by omega)]
    congr 1; omega
theorem wsum_eq {G : Nd → Prop} {w : World} (l : List (At w G)) (h : 1 + sizes (l.map (·.1.2)) < 4611686018427387904) : wsum l = ((1 + sizes (l.map (·.1.2)) : Nat) : Int) := wsum_from l 1 h
set_option maxRecDepth 100000 in
set_option maxHeartbeats 2000000 in
theorem size_in : ∀ (D : Nat) (x : Nd) (v : Value) (w : World), x.deep ≤ D → x.size < 4611686018427387904 → NdAt w v x → Calls Tryd.prog 63 #[v] w fun e w' => e = .returned (.int .i64 x.size) ∧ Below w.heap.size w w' := by
  intro D; induction D with
  | zero => intro x v w h; cases x with
    | ex e => obtain ⟨_, _, _, _, _, l⟩ := e; have : deepE _ ≤ 0 := h; rw [deepE] at this; omega
    | st s => obtain ⟨_, _, _, _, _, _, i, x, t, e⟩ := s; have : deepS _ ≤ 0 := h; rw [deepS] at this; omega
  | succ D ih =>
    intro x v w hD hs hN
    obtain ⟨pp, qq, hv⟩ := hN.agg
    obtain ⟨p, hp⟩ : ∃ p, Value.pointer pp = p := ⟨_, rfl⟩
    obtain ⟨q, hq⟩ : ∃ q, Value.pointer qq = q := ⟨_, rfl⟩
    rw [hp, hq] at hv
    subst hv
    clear hp hq
    refine (callsIn_wide (n := 9)).1 ?_
    refine callsIn_of_wp_marks Tryd.func63 rfl trivial ?_ rfl
    simp only [Tryd.ntmps63, List.size_toArray, List.length_cons, List.length_nil, Nat.reduceAdd, Nat.reduceSub, Array.replicate_succ, Array.replicate_zero, List.push_toArray, List.append_toArray, List.nil_append, List.cons_append]
    gi_wp2_with (refine ⟨trivial, ?_⟩; gi_at_call 105; refine (children_any _ _ _ _).mono ?_; rintro e w' ⟨rfl, rfl⟩)
    obtain ⟨W0, hW0⟩ : ∃ W0, (((w.alloc (.cells #[p, q] 85)).alloc (.cells #[.int .i64 1] 3)).alloc (.cells #[p, q] 85)) = W0 := ⟨_, rfl⟩
    have hsz : W0.heap.size = w.heap.size + 3 := by rw [← hW0]; simp
    have hw0 : Below w.heap.size w W0 := by rw [← hW0]; exact (((Below.refl _ w).alloc (Nat.le_refl _) _).alloc (by simp <;> omega) _).alloc (by simp <;> omega) _
    have hn2 := cells_new2 ((w.alloc (.cells #[p, q] 85)).alloc (.cells #[.int .i64 1] 3)) p q 85
    have hbx : Boxed W0 (w.heap.size + 1) 3 (.int .i64 1) := by
      rw [← hW0]
      exact (Below.heap_alloc _ _ _ (by simp)).trans (by have := World.alloc_heap_new (w.alloc (.cells #[p, q] 85)) (.cells #[.int .i64 1] 3); rwa [World.size_alloc] at this)
    simp only [World.size_alloc] at hn2
    rw [hW0] at hn2 ⊢
    have hkid : ∀ y ∈ x.kids, y.deep ≤ D ∧ y.size < 4611686018427387904 := fun y hy => ⟨by have := Nd.deep_kids hy; omega, by have h1 := Nd.size_mem hy; have h2 := x.size_kids; omega⟩
    obtain ⟨xs, hxs, hseq⟩ := seq_stops 8 (fun y => y.deep ≤ D ∧ y.size < 4611686018427387904) x hkid (.agg #[p, q]) p q w W0 (w.heap.size + 1) (w.heap.size + 1 + 1) rfl hN hw0 (by omega) (by omega) (by omega) (by omega) hn2.1 hn2.2
    have hsum : wsum xs = (x.size : Int) := by
      rw [wsum_eq xs (by rw [hxs]; have := x.size_kids; omega), hxs, x.size_kids]
    refine wpIn_rangeFunc_ownH (F := Fence.wide) rfl (by omega) (gf := 125) (lb := #[.pointer (some ⟨w.heap.size + 1 + 1, 0, none⟩)]) rfl trivial (enters_of Tryd.func125 (by kernel_rfl) rfl)
      hseq KpB.trans (fun W l o o' _ h hc _ => KpB.putObj W l o o' h hc) (Below.refl _ _) (fun _ => rfl)
      (fun pre W => Boxed W (w.heap.size + 1) 3 (.int .i64 (wsum pre)) ∧ Below w.heap.size w W ∧ W0.heap.size ≤ W.heap.size) (fun _ _ _ => False)
      (OwnFrom.and (Own.from (boxed_own _ _ _) _) (OwnFrom.and (ownFrom_below (Nat.le_refl _) (by omega)) (fun _ _ _ _ hs hg _ => Nat.le_trans hs hg.size))) (fun _ _ _ _ _ h _ _ => h) ⟨hbx, hw0, Nat.le_refl _⟩
      (fun y a' W => ∃ Bx py qy, y.1.1 = .agg #[.pointer py, .pointer qy] ∧ W.heap[Bx]? = some (.cells #[.pointer py, .pointer qy] 85 (0, 0)) ∧ W0.heap.size ≤ Bx ∧
        a' = { tmps := #[.agg #[p, q], .pointer (some ⟨w.heap.size, 0, none⟩), .int .i64 0, .pointer (some ⟨w.heap.size + 1, 0, none⟩), .pointer (some ⟨Bx, 0, none⟩), .agg #[p, q], .func (.func 125) #[] #[.pointer (some ⟨w.heap.size + 1 + 1, 0, none⟩)], y.1.1, undef, undef, undef, undef, undef], defers := [] })
      (fun y a' s W W' row hs hg hr => by
        obtain ⟨Bx, py, qy, h1, h2, h3, h4⟩ := hs
        exact ⟨Bx, py, qy, h1, (hg.block Bx (Array.getElem?_eq_some_iff.1 h2).1 (fun e => by obtain ⟨_, o, ho, hc⟩ := hr Bx e.symm; rw [h2] at ho; cases ho; cases hc)).trans h2, h3, h4⟩) ?assign ?body ?done ?stop
    case assign =>
      rintro l pre y W K ⟨hi1, hi2, hi3⟩ hK
      obtain ⟨py, qy, hy⟩ := y.2.1.agg
      rw [hy]
      gi_wp2
      exact hK _ _ ((KeepsOthers.alloc _ _).from _) (KpB.of_below ((Below.refl _ W).alloc (Nat.le_refl _) _)) ⟨hi1.alloc _, hi2.trans (((Below.refl _ W).alloc (Nat.le_refl _) _).mono hi2.size), by simp; omega⟩ ⟨W.heap.size, py, qy, hy, World.alloc_heap_new _ _, hi3, by rw [hy]⟩
    case body =>
      rintro l pre y a' W hl ⟨r, hr⟩ ⟨hi1, hi2, hi3⟩ ⟨Bx, py, qy, hy, hx, hBx, rfl⟩ hlt
      have hc := hi1.cell
      have hf := hi1.frozen
      have hx0 : W.cell? ⟨Bx, 0, none⟩ = some (.pointer py) := by unfold World.cell?; rw [hx]; rfl
      have hx1 : W.cell? ⟨Bx, 1, none⟩ = some (.pointer qy) := by unfold World.cell?; rw [hx]; rfl
      have hmx : Tryd.prog.follows .mixedOrders = true := by kernel_rfl
      rw [hy]
      gi_wp2
      gi_region_with_o (refine ⟨trivial, ?_⟩; gi_at_call 63; refine (CallsIn.inRound l (callsIn_wide.2 (ih y.1.2 _ _ y.2.2.1 y.2.2.2 (by rw [← hy]; exact (y.2.1.below hi2).below ⟨rfl, rfl, rfl, Nat.le_refl _, fun _ _ => rfl⟩)))).mono ?_; rintro e W3 ⟨rfl, hb3⟩; have hc3 : W3.cell? ⟨w.heap.size + 1, 0, none⟩ = some (.int .i64 (wsum pre)) := (hb3.cell (p := ⟨w.heap.size + 1, 0, none⟩) hi1.lt).trans hc; have hf3 : W3.frozen? ⟨w.heap.size + 1, 0, none⟩ = false := (hb3.frozen (p := ⟨w.heap.size + 1, 0, none⟩) hi1.lt).trans hf; have HB3 := Lx.Hd.mk hb3; clear hb3)
      all_goals gi_wp2
      all_goals
        have hB : Below W.heap.size W W3 := Below.trans (b := W.drew) ⟨rfl, rfl, rfl, Nat.le_refl _, fun _ _ => rfl⟩ HB3.out
        refine ⟨((keeps_of_below hB).trans (KeepsOthers.setCell _ _ _)).from _, (KpB.of_below hB).trans (KpB.setB _ _ _), ?_, ?_, ?_⟩
        · rw [wsum_snoc]
          exact blk_put (cs := #[.int .i64 (wsum pre)]) ((hB.block _ hi1.lt).trans hi1) 0 _ rfl
        · exact (hi2.trans (hB.mono hi2.size)).setCell (p := ⟨w.heap.size + 1, 0, none⟩) (Nat.le_succ _) _
        · have := hB.size; simp; omega
    case done =>
      rintro D' ys W hD' rfl ⟨h1, h2, h3⟩ hK
      have hc := h1.cell
      rw [hsum] at hc
      gi_wp2
      refine ⟨by simp, .inl ⟨_, _, rfl, run_takeDeferred hK, ?_⟩⟩
      exact ⟨_, results_tmp rfl _ _ _, rfl, h2.trans (belowK_b (w := w) (Nat.le_refl _) W D' _ _ (by omega) hK rfl rfl)⟩
    case stop =>
      intro D c pre W _ _ h _
      exact h.elim
end Go.Proofs.YtgkhpecllhiidaaDoor.A
