/- Package ast: two expressions are alike: SameExpr. -/
import Derived.Test.YtgkhpecllhiidaaDoorZBb
import Derived.Test.YtgkhpecllhiidaaDoorZBn
import Derived.Test.YtgkhpecllhiidaaDoorZAo
import Derived.Test.YtgkhpecllhiidaaDoorZCx1
set_option linter.unusedVariables false
set_option linter.unusedSimpArgs false
namespace Go.Proofs.YtgkhpecllhiidaaDoor.A
open Go.RowKit Go.Shelf Go.Proofs.YtgkhpecllhiidaaDoor.As Go.Proofs.YtgkhpecllhiidaaDoorW.PrintWords Go.Proofs.YtgkhpecllhiidaaDoorW.PrintLast Go.Proofs.YtgkhpecllhiidaaDoorW.PrintMore
mutual
def sameE : SE → SE → Bool
  | ⟨a0, a1, a2, a3, a4, l⟩, ⟨b0, b1, b2, b3, b4, m⟩ => sameB ⟨a0, a1, a2, a3, a4, l⟩ ⟨b0, b1, b2, b3, b4, m⟩ && sameEs l m
def sameEs : List SE → List SE → Bool
  | [], [] => true
  | a :: l, b :: m => sameE a b && sameEs l m
  | _, _ => false
end
theorem sameE_eq' (x y : SE) : sameE x y = (sameB x y && sameEs x.f5 y.f5) := by cases x; cases y; rfl
def eqL {α : Type} (f : α → α → Bool) : List α → List α → Bool
  | [], [] => true
  | a :: l, b :: m => f a b && eqL f l m
  | _, _ => false
theorem eqL_len {α : Type} (f : α → α → Bool) : ∀ (l m : List α), l.length ≠ m.length → eqL f l m = false
  | [], [], h => absurd rfl h
  | [], _ :: _, _ => rfl
  | _ :: _, [], _ => rfl
  | a :: l, b :: m, h => by rw [eqL, eqL_len f l m (fun e => h (by simp [e])), Bool.and_false]
theorem kept_cells {W : World} {b : Nat} {vs : Array Value} {t : TypeId} (h : W.heap[b]? = some (.cells vs t (0, 0))) : ∀ W', Below W.heap.size W W' → ∀ j u, vs[j]? = some u → W'.cell? ⟨b, j, none⟩ = some u := fun W' hb j u hj => by
  have h' := heap_kept hb h
  unfold World.cell?; rw [h']; exact hj
theorem sameEs_eqL : ∀ l m : List SE, sameEs l m = eqL sameE l m
  | [], [] => rfl
  | [], _ :: _ => rfl
  | _ :: _, [] => rfl
  | a :: l, b :: m => by rw [sameEs, eqL, sameEs_eqL l m]
theorem sameE_eq (x y : SE) : sameE x y = (sameB x y && eqL sameE x.f5 y.f5) := by rw [sameE_eq', sameEs_eqL]
def RowsE (W : World) (x : SE) (A5 : Option Addr) (c5 : Nat) : Prop := kE.C W A5 x.f5.length x.f5 ∧ x.f5.length ≤ c5
theorem RowsE.below {W W' : World} {x : SE} {A5 : Option Addr} {c5 : Nat} (h : RowsE W x A5 c5) (hb : Below W.heap.size W W') : RowsE W' x A5 c5 := ⟨Kd.C_below h.1 hb, h.2⟩
def BkE (W : World) (b : Nat) (x : SE) (A5 : Option Addr) (c5 : Nat) : Prop := W.cell? ⟨b, 0, none⟩ = some (.int .i64 x.f0) ∧ W.cell? ⟨b, 1, none⟩ = some (.int .i64 x.f1) ∧ W.cell? ⟨b, 2, none⟩ = some (.int .i64 x.f2) ∧ W.cell? ⟨b, 3, none⟩ = some (.int .u32 x.f3) ∧ W.cell? ⟨b, 4, none⟩ = some (.string x.f4) ∧ W.cell? ⟨b, 5, none⟩ = some (.slice A5 x.f5.length c5)
theorem bkE_of {W : World} {b : Nat} {x : SE} {A5 : Option Addr} {c5 : Nat} (h : W.heap[b]? = some (.cells #[.int .i64 x.f0, .int .i64 x.f1, .int .i64 x.f2, .int .u32 x.f3, .string x.f4, .slice A5 x.f5.length c5] 25 (0, 0))) : ∀ W', Below W.heap.size W W' → BkE W' b x A5 c5 := fun W' hb => by
  have k := kept_cells h W' hb
  exact ⟨k 0 _ rfl, k 1 _ rfl, k 2 _ rfl, k 3 _ rfl, k 4 _ rfl, k 5 _ rfl⟩
def SameAt (x y : SE) : Prop := ∀ (A5 : Option Addr) (c5 : Nat) (B5 : Option Addr) (d5 : Nat) (W : World), RowsE W x A5 c5 → RowsE W y B5 d5 →
  Calls Tryd.prog 36 #[.agg #[.int .i64 x.f0, .int .i64 x.f1, .int .i64 x.f2, .int .u32 x.f3, .string x.f4, .slice A5 x.f5.length c5], .agg #[.int .i64 y.f0, .int .i64 y.f1, .int .i64 y.f2, .int .u32 y.f3, .string y.f4, .slice B5 y.f5.length d5]] W fun e W' => e = .returned (.bool (sameE x y)) ∧ Below W.heap.size W W'
set_option maxRecDepth 100000 in
set_option maxHeartbeats 4000000 in
theorem equal_ex (A1 A2 : Option Addr) (c1 c2 : Nat) (l m : List SE) (w : World) (h1 : kE.C w A1 l.length l) (h2 : kE.C w A2 m.length m) (hf : ∀ x ∈ l, ∀ y, SameAt x y) :
    Calls Tryd.prog 81 #[.slice A1 l.length c1, .slice A2 m.length c2, .func (.func 36) #[] #[]] w fun e w' => e = .returned (.bool (eqL sameE l m)) ∧ Below w.heap.size w w' := by
  have l1 : l.length ≤ 9223372036854775807 := h1.2.1
  have l2 : m.length ≤ 9223372036854775807 := h2.2.1
  have H1 := Lx.Hd.mk h1
  have H2 := Lx.Hd.mk h2
  have HF := Lx.Hd.mk hf
  clear h1 h2 hf
  by_cases hne : l.length = m.length
  · go_enter Tryd.func81, Tryd.ntmps81
    go_wp2
    go_loopw [17] (fun t17 wr => ∃ i : Nat, i ≤ l.length ∧ t17 = .int .i64 i ∧ eqL sameE l m = eqL sameE (l.drop i) (m.drop i) ∧ Below w.heap.size w wr) (fun t17 _ => l.length - (intOf t17).toNat)
    case atStart => exact ⟨0, Nat.zero_le _, rfl, rfl, Below.refl _ _⟩
    case round =>
      have HNE := Lx.Hd.mk hne
      obtain ⟨i, hi, rfl, hS, hB⟩ := hrel
      by_cases hlt : i < l.length
      · clear hne
        have hlm : i < m.length := by have := HNE.out; omega
        obtain ⟨ad1, A5, c5, rfl, p0, p1, p2, p3, p4, p5, k5, g5⟩ := at_T25 H1.out i (by omega) (by omega)
        obtain ⟨ad2, B5, d5, rfl, q0, q1, q2, q3, q4, q5, m5, n5⟩ := at_T25 H2.out i (by omega) (by omega)
        have ex : rd_T25 l i = l[i] := by unfold rd_T25; rw [Int.toNat_natCast, List.getD_eq_getElem?_getD, List.getElem?_eq_getElem hlt]; rfl
        have ey : rd_T25 m i = m[i] := by unfold rd_T25; rw [Int.toNat_natCast, List.getD_eq_getElem?_getD, List.getElem?_eq_getElem hlm]; rfl
        rw [ex] at p0 p1 p2 p3 p4 p5 k5 g5
        rw [ey] at q0 q1 q2 q3 q4 q5 m5 n5
        rw [Int.toNat_natCast] at p0 p1 p2 p3 p4 p5 q0 q1 q2 q3 q4 q5
        rw [List.drop_eq_getElem_cons hlt, List.drop_eq_getElem_cons hlm, eqL] at hS
        have HSt := Lx.Hd.mk (HF.out l[i] (List.getElem_mem hlt) m[i])
        generalize l[i] = x at *
        generalize m[i] = y at *
        clear ex ey
        have a0 := pw_cell_below hB p0; have a1 := pw_cell_below hB p1; have a2 := pw_cell_below hB p2; have a3 := pw_cell_below hB p3; have a4 := pw_cell_below hB p4; have a5 := pw_cell_below hB p5
        have HB := Lx.Hd.mk hB
        have HS := Lx.Hd.mk hS
        have HG1 : Lx.Hd (RowsE w x A5 c5) := Lx.Hd.mk ⟨g5, k5⟩
        have HG2 : Lx.Hd (RowsE w y B5 d5) := Lx.Hd.mk ⟨n5, m5⟩
        have HQ := Lx.Hd.mk (And.intro q0 (And.intro q1 (And.intro q2 (And.intro q3 (And.intro q4 q5)))))
        clear p0 p1 p2 p3 p4 p5 q0 q1 q2 q3 q4 q5 hB hS g5 k5 n5 m5
        go_upto_region 6 with (fail)
        refine name_world fun W1 hW1 => ?_
        have hb1 : W1.heap[wr.heap.size]? = some (.cells #[.int .i64 x.f0, .int .i64 x.f1, .int .i64 x.f2, .int .u32 x.f3, .string x.f4, .slice A5 x.f5.length c5] 25 (0, 0)) := by rw [hW1]; exact World.alloc_heap_new wr _
        have hB1 : Below w.heap.size w W1 := by rw [hW1]; exact HB.out.trans (((Below.refl _ wr).alloc (Nat.le_refl _) _).mono HB.out.size)
        have hs1 : W1.heap.size = wr.heap.size + 1 := by rw [hW1]; simp
        obtain ⟨q0, q1, q2, q3, q4, q5⟩ := HQ.out
        have b0 := pw_cell_below hB1 q0; have b1 := pw_cell_below hB1 q1; have b2 := pw_cell_below hB1 q2; have b3 := pw_cell_below hB1 q3; have b4 := pw_cell_below hB1 q4; have b5 := pw_cell_below hB1 q5
        clear q0 q1 q2 q3 q4 q5 hW1 a0 a1 a2 a3 a4 a5
        have HB1 := Lx.Hd.mk hB1
        have HK1 := Lx.Hd.mk hb1
        clear hB1 hb1
        go_upto_region 7 with (fail)
        refine name_world fun W2 hW2 => ?_
        have hb2 : W2.heap[wr.heap.size + 1]? = some (.cells #[.int .i64 y.f0, .int .i64 y.f1, .int .i64 y.f2, .int .u32 y.f3, .string y.f4, .slice B5 y.f5.length d5] 25 (0, 0)) := by rw [hW2, ← hs1]; exact World.alloc_heap_new W1 _
        have hb1 : W2.heap[wr.heap.size]? = some (.cells #[.int .i64 x.f0, .int .i64 x.f1, .int .i64 x.f2, .int .u32 x.f3, .string x.f4, .slice A5 x.f5.length c5] 25 (0, 0)) := by rw [hW2]; exact (Below.heap_alloc _ _ _ (by omega)).trans HK1.out
        have HB2 : Lx.Hd (Below w.heap.size w W2) := Lx.Hd.mk (by rw [hW2]; exact HB1.out.trans (((Below.refl _ W1).alloc (Nat.le_refl _) _).mono HB1.out.size))
        have cx : ∀ j u, (#[.int .i64 x.f0, .int .i64 x.f1, .int .i64 x.f2, .int .u32 x.f3, .string x.f4, .slice A5 x.f5.length c5] : Array Value)[j]? = some u → W2.cell? ⟨wr.heap.size, j, none⟩ = some u := fun j u h => by unfold World.cell?; rw [hb1]; exact h
        have cy : ∀ j u, (#[.int .i64 y.f0, .int .i64 y.f1, .int .i64 y.f2, .int .u32 y.f3, .string y.f4, .slice B5 y.f5.length d5] : Array Value)[j]? = some u → W2.cell? ⟨wr.heap.size + 1, j, none⟩ = some u := fun j u h => by unfold World.cell?; rw [hb2]; exact h
        have x0 := cx 0 _ rfl; have x1 := cx 1 _ rfl; have x2 := cx 2 _ rfl; have x3 := cx 3 _ rfl; have x4 := cx 4 _ rfl; have x5 := cx 5 _ rfl
        have y0 := cy 0 _ rfl; have y1 := cy 1 _ rfl; have y2 := cy 2 _ rfl; have y3 := cy 3 _ rfl; have y4 := cy 4 _ rfl; have y5 := cy 5 _ rfl
        clear cx cy hb1 hb2 hW2 b0 b1 b2 b3 b4 b5
        have HC := Lx.Hd.mk (HSt.out A5 c5 B5 d5 W2 (RowsE.below HG1.out HB2.out) (RowsE.below HG2.out HB2.out))
        cases hsm : sameE x y
        all_goals
          go_wp2_with (go_at_call 36; refine HC.out.mono ?_; rw [hsm]; rintro e W3 ⟨rfl, hb⟩; have HB3 : Lx.Hd (Below w.heap.size w W3) := Lx.Hd.mk (HB2.out.trans (hb.mono HB2.out.size)); clear hb)
        · go_ret
          exact ⟨by rw [HS.out, hsm]; rfl, HB3.out⟩
        · exact ⟨⟨i + 1, hlt, by go_num, by rw [HS.out, hsm, Bool.true_and], HB3.out⟩, by simp [intOf]; omega⟩
      · have hil : i = l.length := by omega
        rw [hil, List.drop_length, HNE.out, List.drop_length] at hS
        have HS := Lx.Hd.mk hS
        have HB := Lx.Hd.mk hB
        clear hS hB
        go_wp2
        go_ret
        exact ⟨by rw [HS.out]; rfl, HB.out⟩
  · have hn : ¬ (l.length : Int) = (m.length : Int) := by omega
    go_enter Tryd.func81, Tryd.ntmps81
    go_wp2
    go_ret
    exact ⟨by rw [eqL_len sameE l m hne]; rfl, Below.refl _ _⟩
set_option maxRecDepth 100000 in
set_option maxHeartbeats 8000000 in
theorem sameExpr_step (x y : SE) (A5 : Option Addr) (c5 : Nat) (B5 : Option Addr) (d5 : Nat) (w : World) (hA : RowsE w x A5 c5) (hB : RowsE w y B5 d5) (hf : ∀ a ∈ x.f5, ∀ b, SameAt a b) :
    Calls Tryd.prog 36 #[.agg #[.int .i64 x.f0, .int .i64 x.f1, .int .i64 x.f2, .int .u32 x.f3, .string x.f4, .slice A5 x.f5.length c5], .agg #[.int .i64 y.f0, .int .i64 y.f1, .int .i64 y.f2, .int .u32 y.f3, .string y.f4, .slice B5 y.f5.length d5]] w fun e w' => e = .returned (.bool (sameE x y)) ∧ Below w.heap.size w w' := by
  have HC := Lx.Hd.mk (And.intro hA hB)
  clear hA hB
  have HX0 := Lx.Hd.mk hf
  clear hf
  go_enter Tryd.func36, Tryd.ntmps36
  go_upto_region 1 with (fail)
  refine name_world fun W2 hW2 => ?_
  have HB0 : Lx.Hd (Below w.heap.size w W2) := Lx.Hd.mk (by rw [hW2]; exact below_alloc (below_alloc (Below.refl _ _) _) _)
  have z1 : (w.alloc (.cells #[.int .i64 x.f0, .int .i64 x.f1, .int .i64 x.f2, .int .u32 x.f3, .string x.f4, .slice A5 x.f5.length c5] 25)).heap.size = w.heap.size + 1 := by simp
  have hb1 : W2.heap[w.heap.size]? = some (.cells #[.int .i64 x.f0, .int .i64 x.f1, .int .i64 x.f2, .int .u32 x.f3, .string x.f4, .slice A5 x.f5.length c5] 25 (0, 0)) := by rw [hW2]; exact blk_alloc (World.alloc_heap_new w _) _
  have hb2 : W2.heap[w.heap.size + 1]? = some (.cells #[.int .i64 y.f0, .int .i64 y.f1, .int .i64 y.f2, .int .u32 y.f3, .string y.f4, .slice B5 y.f5.length d5] 25 (0, 0)) := by rw [hW2, ← z1]; exact World.alloc_heap_new _ _
  have BC1 := Lx.Hd.mk (bkE_of hb1)
  have BC2 := Lx.Hd.mk (bkE_of hb2)
  have HC2 : Lx.Hd (RowsE W2 x A5 c5 ∧ RowsE W2 y B5 d5) := Lx.Hd.mk ⟨RowsE.below HC.out.1 HB0.out, RowsE.below HC.out.2 HB0.out⟩
  have HB : Lx.Hd (Below W2.heap.size W2 W2) := Lx.Hd.mk (Below.refl _ _)
  clear hW2 z1 hb1 hb2 HC
  generalize w.heap.size = bx at BC1 BC2 ⊢
  obtain ⟨p0, p1, p2, p3, p4, p5⟩ := BC1.out _ HB.out
  obtain ⟨q0, q1, q2, q3, q4, q5⟩ := BC2.out _ HB.out
  cases hs0 : sameB x y
  · go_wp2_with (first | (go_at_call 80; (with_reducible refine (same_any x y A5 B5 _ _ c5 d5 _).mono ?_); rw [hs0]; rintro r W3 ⟨rfl, hb⟩; replace HB := bst HB hb; clear hb; clear p0 q0 p1 q1 p2 q2 p3 q3 p4 q4 p5 q5; obtain ⟨p0, p1, p2, p3, p4, p5⟩ := BC1.out _ HB.out; obtain ⟨q0, q1, q2, q3, q4, q5⟩ := BC2.out _ HB.out) | fail)
    go_ret
    exact ⟨by rw [sameE_eq, hs0]; rfl, bto HB0 HB⟩
  cases hs1 : eqL sameE x.f5 y.f5
  · go_wp2_with (first | (go_at_call 80; (with_reducible refine (same_any x y A5 B5 _ _ c5 d5 _).mono ?_); rw [hs0]; rintro r W3 ⟨rfl, hb⟩; replace HB := bst HB hb; clear hb; clear p0 q0 p1 q1 p2 q2 p3 q3 p4 q4 p5 q5; obtain ⟨p0, p1, p2, p3, p4, p5⟩ := BC1.out _ HB.out; obtain ⟨q0, q1, q2, q3, q4, q5⟩ := BC2.out _ HB.out) | (go_at_call 81; (with_reducible refine (equal_ex A5 B5 c5 d5 x.f5 y.f5 _ ?s1 ?s2 HX0.out).mono ?_); (case s1 => exact (RowsE.below HC2.out.1 HB.out).1); (case s2 => exact (RowsE.below HC2.out.2 HB.out).1); rw [hs1]; rintro r W3 ⟨rfl, hb⟩; replace HB := bst HB hb; clear hb; clear p0 q0 p1 q1 p2 q2 p3 q3 p4 q4 p5 q5; obtain ⟨p0, p1, p2, p3, p4, p5⟩ := BC1.out _ HB.out; obtain ⟨q0, q1, q2, q3, q4, q5⟩ := BC2.out _ HB.out) | fail)
    go_ret
    exact ⟨by rw [sameE_eq, hs0, hs1]; rfl, bto HB0 HB⟩
  go_wp2_with (first | (go_at_call 80; (with_reducible refine (same_any x y A5 B5 _ _ c5 d5 _).mono ?_); rw [hs0]; rintro r W3 ⟨rfl, hb⟩; replace HB := bst HB hb; clear hb; clear p0 q0 p1 q1 p2 q2 p3 q3 p4 q4 p5 q5; obtain ⟨p0, p1, p2, p3, p4, p5⟩ := BC1.out _ HB.out; obtain ⟨q0, q1, q2, q3, q4, q5⟩ := BC2.out _ HB.out) | (go_at_call 81; (with_reducible refine (equal_ex A5 B5 c5 d5 x.f5 y.f5 _ ?s1 ?s2 HX0.out).mono ?_); (case s1 => exact (RowsE.below HC2.out.1 HB.out).1); (case s2 => exact (RowsE.below HC2.out.2 HB.out).1); rw [hs1]; rintro r W3 ⟨rfl, hb⟩; replace HB := bst HB hb; clear hb; clear p0 q0 p1 q1 p2 q2 p3 q3 p4 q4 p5 q5; obtain ⟨p0, p1, p2, p3, p4, p5⟩ := BC1.out _ HB.out; obtain ⟨q0, q1, q2, q3, q4, q5⟩ := BC2.out _ HB.out) | fail)
  go_ret
  exact ⟨by rw [sameE_eq, hs0, hs1]; rfl, bto HB0 HB⟩
theorem sameAt_any : ∀ (D : Nat) (x : SE), deepE x ≤ D → ∀ y, SameAt x y
  | 0, ⟨_, _, _, _, _, l⟩, h, _ => by rw [deepE] at h; omega
  | D + 1, ⟨a0, a1, a2, a3, a4, l⟩, h, y => by
    rw [deepE] at h
    exact fun A5 c5 B5 d5 W hA hB => sameExpr_step ⟨a0, a1, a2, a3, a4, l⟩ y A5 c5 B5 d5 W hA hB fun a ha b => sameAt_any D a (by have := deep_mem_E (l := l) ha; omega) b
end Go.Proofs.YtgkhpecllhiidaaDoor.A
namespace Go.Proofs.YtgkhpecllhiidaaDoor.A
open Go.RowKit Go.Shelf Go.Proofs.YtgkhpecllhiidaaDoor.As Go.Proofs.YtgkhpecllhiidaaDoorW.PrintWords Go.Proofs.YtgkhpecllhiidaaDoorW.PrintLast Go.Proofs.YtgkhpecllhiidaaDoorW.PrintMore
abbrev SG := S99
abbrev ST := S105
abbrev SP := S46
abbrev SQ := S110
abbrev kG := k99
abbrev kT := k105
abbrev kQ := k110
def eqT : List ByteArray → List ByteArray → Bool := eqL (fun a b => a.toList == b.toList)
def eqN : List Int → List Int → Bool := eqL (fun a b => a == b)
def eqQ : List SQ → List SQ → Bool := eqL (fun a b => a.f0.toList == b.f0.toList && a.f1 == b.f1)
theorem w64j (n : Int) (h : -9223372036854775808 ≤ n ∧ n < 9223372036854775808) : wrap64 n = n := by unfold wrap64; omega
theorem equalT_loop (l m : List ByteArray) (hl : l.length = m.length) (hb : l.length ≤ 9223372036854775807) : ∀ n i, l.length - i ≤ n → i ≤ l.length → slices_Equal_string_string.l0 (n + 1) l m (l.length : Int) (i : Int) = some (eqT (l.drop i) (m.drop i))
  | 0, i, hn, hi => by
    obtain rfl : i = l.length := by omega
    rw [slices_Equal_string_string.l0, if_neg (by omega), List.drop_length, hl, List.drop_length]; rfl
  | n + 1, i, hn, hi => by
    by_cases hlt : i < l.length
    · have hmt : i < m.length := by omega
      have hx : rdOf ByteArray.empty l (i : Int) = l[i] := by unfold rdOf; rw [Int.toNat_natCast, List.getD_eq_getElem?_getD, List.getElem?_eq_getElem hlt]; rfl
      have hy : rdOf ByteArray.empty m (i : Int) = m[i] := by unfold rdOf; rw [Int.toNat_natCast, List.getD_eq_getElem?_getD, List.getElem?_eq_getElem hmt]; rfl
      have ih := equalT_loop l m hl hb n (i + 1) (by omega) hlt
      rw [slices_Equal_string_string.l0, if_pos (by omega), if_pos (by omega), if_pos (by omega), if_pos (by omega), hx, hy, w64j _ (by omega), List.drop_eq_getElem_cons hlt, List.drop_eq_getElem_cons hmt, show (i : Int) + 1 = ((i + 1 : Nat) : Int) by omega, ih]
      generalize l[i] = x
      generalize m[i] = y
      unfold eqT; rw [eqL]
      by_cases h : x.toList = y.toList
      · rw [if_pos h, show (x.toList == y.toList) = true from beq_iff_eq.2 h, Bool.true_and]
      · rw [if_neg h, show (x.toList == y.toList) = false from beq_eq_false_iff_ne.2 h, Bool.false_and]
    · obtain rfl : i = l.length := by omega
      rw [slices_Equal_string_string.l0, if_neg (by omega), List.drop_length, hl, List.drop_length]; rfl
theorem equalT_f (l m : List ByteArray) (hb : l.length ≤ 9223372036854775807) : slices_Equal_string_string.f (l.length + 1) l m = some (eqT l m) := by
  unfold slices_Equal_string_string.f
  by_cases h : l.length = m.length
  · rw [if_pos (by omega)]
    have := equalT_loop l m h hb l.length 0 (by omega) (Nat.zero_le _)
    rw [List.drop_zero, List.drop_zero] at this
    exact this
  · rw [if_neg (by omega)]
    have : eqT l m = false := by unfold eqT; exact eqL_len _ l m h
    rw [this]
theorem equalT_calls (l m : List ByteArray) (A B : Option Addr) (c d : Nat) (W : World) (h1 : Kd.string.C W A l.length l) (hc : l.length ≤ c) (h2 : Kd.string.C W B m.length m) (hd : m.length ≤ d) :
    Calls Tryd.prog 91 #[.slice A l.length c, .slice B m.length d] W fun e W' => e = .returned (.bool (eqT l m)) ∧ Below W.heap.size W W' :=
  (slices_Equal_string_string.calls (l.length + 1) A c l B d m (eqT l m) W h1 hc h2 hd (equalT_f l m h1.2.1)).mono fun r W' h => ⟨h.1, by have := h.2; first | exact this | exact this.below⟩
theorem equalN_loop (l m : List Int) (hl : l.length = m.length) (hb : l.length ≤ 9223372036854775807) : ∀ n i, l.length - i ≤ n → i ≤ l.length → slices_Equal_uint32_uint32.l0 (n + 1) l m (l.length : Int) (i : Int) = some (eqN (l.drop i) (m.drop i))
  | 0, i, hn, hi => by
    obtain rfl : i = l.length := by omega
    rw [slices_Equal_uint32_uint32.l0, if_neg (by omega), List.drop_length, hl, List.drop_length]; rfl
  | n + 1, i, hn, hi => by
    by_cases hlt : i < l.length
    · have hmt : i < m.length := by omega
      have hx : rd l (i : Int) = l[i] := by unfold rd; rw [Int.toNat_natCast, List.getD_eq_getElem?_getD, List.getElem?_eq_getElem hlt]; rfl
      have hy : rd m (i : Int) = m[i] := by unfold rd; rw [Int.toNat_natCast, List.getD_eq_getElem?_getD, List.getElem?_eq_getElem hmt]; rfl
      have ih := equalN_loop l m hl hb n (i + 1) (by omega) hlt
      rw [slices_Equal_uint32_uint32.l0, if_pos (by omega), if_pos (by omega), if_pos (by omega), if_pos (by omega), hx, hy, w64j _ (by omega), List.drop_eq_getElem_cons hlt, List.drop_eq_getElem_cons hmt, show (i : Int) + 1 = ((i + 1 : Nat) : Int) by omega, ih]
      generalize l[i] = x
      generalize m[i] = y
      unfold eqN; rw [eqL]
      by_cases h : x = y
      · rw [if_pos h, show (x == y) = true from beq_iff_eq.2 h, Bool.true_and]
      · rw [if_neg h, show (x == y) = false from beq_eq_false_iff_ne.2 h, Bool.false_and]
    · obtain rfl : i = l.length := by omega
      rw [slices_Equal_uint32_uint32.l0, if_neg (by omega), List.drop_length, hl, List.drop_length]; rfl
theorem equalN_f (l m : List Int) (hb : l.length ≤ 9223372036854775807) : slices_Equal_uint32_uint32.f (l.length + 1) l m = some (eqN l m) := by
  unfold slices_Equal_uint32_uint32.f
  by_cases h : l.length = m.length
  · rw [if_pos (by omega)]
    have := equalN_loop l m h hb l.length 0 (by omega) (Nat.zero_le _)
    rw [List.drop_zero, List.drop_zero] at this
    exact this
  · rw [if_neg (by omega)]
    have : eqN l m = false := by unfold eqN; exact eqL_len _ l m h
    rw [this]
theorem equalN_calls (l m : List Int) (A B : Option Addr) (c d : Nat) (W : World) (h1 : (Kd.int .u32).C W A l.length l) (hc : l.length ≤ c) (h2 : (Kd.int .u32).C W B m.length m) (hd : m.length ≤ d) :
    Calls Tryd.prog 69 #[.slice A l.length c, .slice B m.length d] W fun e W' => e = .returned (.bool (eqN l m)) ∧ Below W.heap.size W W' :=
  (slices_Equal_uint32_uint32.calls (l.length + 1) A c l B d m (eqN l m) W h1 hc h2 hd (equalN_f l m h1.2.1)).mono fun r W' h => ⟨h.1, by have := h.2; first | exact this | exact this.below⟩
theorem equalQ_loop (l m : List SQ) (hl : l.length = m.length) (hb : l.length ≤ 9223372036854775807) : ∀ n i, l.length - i ≤ n → i ≤ l.length → api_Param_74.l0 (n + 1) l m (l.length : Int) (i : Int) = some (eqQ (l.drop i) (m.drop i))
  | 0, i, hn, hi => by
    obtain rfl : i = l.length := by omega
    rw [api_Param_74.l0, if_neg (by omega), List.drop_length, hl, List.drop_length]; rfl
  | n + 1, i, hn, hi => by
    by_cases hlt : i < l.length
    · have hmt : i < m.length := by omega
      have hx : rd_T110 l (i : Int) = l[i] := by unfold rd_T110; rw [Int.toNat_natCast, List.getD_eq_getElem?_getD, List.getElem?_eq_getElem hlt]; rfl
      have hy : rd_T110 m (i : Int) = m[i] := by unfold rd_T110; rw [Int.toNat_natCast, List.getD_eq_getElem?_getD, List.getElem?_eq_getElem hmt]; rfl
      have ih := equalQ_loop l m hl hb n (i + 1) (by omega) hlt
      rw [api_Param_74.l0, if_pos (by omega), if_pos (by omega), if_pos (by omega), if_pos (by omega), hx, hy, w64j _ (by omega), List.drop_eq_getElem_cons hlt, List.drop_eq_getElem_cons hmt, show (i : Int) + 1 = ((i + 1 : Nat) : Int) by omega, ih]
      generalize l[i] = x
      generalize m[i] = y
      unfold eqQ; rw [eqL]
      cases h1 : (x.f0.toList == y.f0.toList) <;> cases h2 : (x.f1 == y.f1) <;> simp
    · obtain rfl : i = l.length := by omega
      rw [api_Param_74.l0, if_neg (by omega), List.drop_length, hl, List.drop_length]; rfl
theorem equalQ_f (l m : List SQ) (hb : l.length ≤ 9223372036854775807) : api_Param_74.f (l.length + 1) l m = some (eqQ l m) := by
  unfold api_Param_74.f
  by_cases h : l.length = m.length
  · rw [if_pos (by omega)]
    have := equalQ_loop l m h hb l.length 0 (by omega) (Nat.zero_le _)
    rw [List.drop_zero, List.drop_zero] at this
    exact this
  · rw [if_neg (by omega)]
    have : eqQ l m = false := by unfold eqQ; exact eqL_len _ l m h
    rw [this]
theorem equalQ_calls (l m : List SQ) (A B : Option Addr) (c d : Nat) (W : World) (h1 : kQ.C W A l.length l) (hc : l.length ≤ c) (h2 : kQ.C W B m.length m) (hd : m.length ≤ d) :
    Calls Tryd.prog 74 #[.slice A l.length c, .slice B m.length d] W fun e W' => e = .returned (.bool (eqQ l m)) ∧ Below W.heap.size W W' :=
  (api_Param_74.calls (l.length + 1) A c l B d m (eqQ l m) W h1 hc h2 hd (equalQ_f l m h1.2.1)).mono fun r W' h => ⟨h.1, by have := h.2; first | exact this | exact this.below⟩
end Go.Proofs.YtgkhpecllhiidaaDoor.A
namespace Go.Proofs.YtgkhpecllhiidaaDoor.A
open Go.RowKit Go.Shelf Go.Proofs.YtgkhpecllhiidaaDoor.As Go.Proofs.YtgkhpecllhiidaaDoorW.PrintWords Go.Proofs.YtgkhpecllhiidaaDoorW.PrintLast Go.Proofs.YtgkhpecllhiidaaDoorW.PrintMore
mutual
def sameS : SS → SS → Bool
  | ⟨a0, _, a2, a3, a4, n, i, e, t, f⟩, ⟨b0, _, b2, b3, b4, n', i', e', t', f'⟩ => a0 == b0 && (a2 == b2 && (a3 == b3 && (a4.toList == b4.toList && (eqT n n' && (eqL sameE i i' && (eqL sameE e e' && (sameSs t t' && sameSs f f')))))))
def sameSs : List SS → List SS → Bool
  | [], [] => true
  | a :: l, b :: m => sameS a b && sameSs l m
  | _, _ => false
end
theorem sameSs_eqL : ∀ l m : List SS, sameSs l m = eqL sameS l m
  | [], [] => rfl
  | [], _ :: _ => rfl
  | _ :: _, [] => rfl
  | a :: l, b :: m => by rw [sameSs, eqL, sameSs_eqL l m]
theorem sameS_eq (x y : SS) : sameS x y = (x.f0 == y.f0 && (x.f2 == y.f2 && (x.f3 == y.f3 && (x.f4.toList == y.f4.toList && (eqT x.f5 y.f5 && (eqL sameE x.f6 y.f6 && (eqL sameE x.f7 y.f7 && (eqL sameS x.f8 y.f8 && eqL sameS x.f9 y.f9)))))))) := by rw [← sameSs_eqL, ← sameSs_eqL]; cases x; cases y; rfl
def RowsS (W : World) (x : SS) (A5 A6 A7 A8 A9 : Option Addr) (c5 c6 c7 c8 c9 : Nat) : Prop := Kd.string.C W A5 x.f5.length x.f5 ∧ kE.C W A6 x.f6.length x.f6 ∧ kE.C W A7 x.f7.length x.f7 ∧ kS.C W A8 x.f8.length x.f8 ∧ kS.C W A9 x.f9.length x.f9 ∧ x.f5.length ≤ c5 ∧ x.f6.length ≤ c6 ∧ x.f7.length ≤ c7 ∧ x.f8.length ≤ c8 ∧ x.f9.length ≤ c9
theorem RowsS.below {W W' : World} {x : SS} {A5 A6 A7 A8 A9 : Option Addr} {c5 c6 c7 c8 c9 : Nat} (h : RowsS W x A5 A6 A7 A8 A9 c5 c6 c7 c8 c9) (hb : Below W.heap.size W W') : RowsS W' x A5 A6 A7 A8 A9 c5 c6 c7 c8 c9 := ⟨Kd.C_below h.1 hb, Kd.C_below h.2.1 hb, Kd.C_below h.2.2.1 hb, Kd.C_below h.2.2.2.1 hb, Kd.C_below h.2.2.2.2.1 hb, h.2.2.2.2.2.1, h.2.2.2.2.2.2.1, h.2.2.2.2.2.2.2.1, h.2.2.2.2.2.2.2.2.1, h.2.2.2.2.2.2.2.2.2⟩
def BkS (W : World) (b : Nat) (x : SS) (A5 A6 A7 A8 A9 : Option Addr) (c5 c6 c7 c8 c9 : Nat) : Prop := W.cell? ⟨b, 0, none⟩ = some (.int .i64 x.f0) ∧ W.cell? ⟨b, 1, none⟩ = some (.int .i64 x.f1) ∧ W.cell? ⟨b, 2, none⟩ = some (.int .i64 x.f2) ∧ W.cell? ⟨b, 3, none⟩ = some (.int .i64 x.f3) ∧ W.cell? ⟨b, 4, none⟩ = some (.string x.f4) ∧ W.cell? ⟨b, 5, none⟩ = some (.slice A5 x.f5.length c5) ∧ W.cell? ⟨b, 6, none⟩ = some (.slice A6 x.f6.length c6) ∧ W.cell? ⟨b, 7, none⟩ = some (.slice A7 x.f7.length c7) ∧ W.cell? ⟨b, 8, none⟩ = some (.slice A8 x.f8.length c8) ∧ W.cell? ⟨b, 9, none⟩ = some (.slice A9 x.f9.length c9)
theorem bkS_of {W : World} {b : Nat} {x : SS} {A5 A6 A7 A8 A9 : Option Addr} {c5 c6 c7 c8 c9 : Nat} (h : W.heap[b]? = some (.cells #[.int .i64 x.f0, .int .i64 x.f1, .int .i64 x.f2, .int .i64 x.f3, .string x.f4, .slice A5 x.f5.length c5, .slice A6 x.f6.length c6, .slice A7 x.f7.length c7, .slice A8 x.f8.length c8, .slice A9 x.f9.length c9] 38 (0, 0))) : ∀ W', Below W.heap.size W W' → BkS W' b x A5 A6 A7 A8 A9 c5 c6 c7 c8 c9 := fun W' hb => by
  have k := kept_cells h W' hb
  exact ⟨k 0 _ rfl, k 1 _ rfl, k 2 _ rfl, k 3 _ rfl, k 4 _ rfl, k 5 _ rfl, k 6 _ rfl, k 7 _ rfl, k 8 _ rfl, k 9 _ rfl⟩
def SameAtS (x y : SS) : Prop := ∀ (A5 A6 A7 A8 A9 : Option Addr) (c5 c6 c7 c8 c9 : Nat) (B5 B6 B7 B8 B9 : Option Addr) (d5 d6 d7 d8 d9 : Nat) (W : World), RowsS W x A5 A6 A7 A8 A9 c5 c6 c7 c8 c9 → RowsS W y B5 B6 B7 B8 B9 d5 d6 d7 d8 d9 →
  Calls Tryd.prog 46 #[.agg #[.int .i64 x.f0, .int .i64 x.f1, .int .i64 x.f2, .int .i64 x.f3, .string x.f4, .slice A5 x.f5.length c5, .slice A6 x.f6.length c6, .slice A7 x.f7.length c7, .slice A8 x.f8.length c8, .slice A9 x.f9.length c9], .agg #[.int .i64 y.f0, .int .i64 y.f1, .int .i64 y.f2, .int .i64 y.f3, .string y.f4, .slice B5 y.f5.length d5, .slice B6 y.f6.length d6, .slice B7 y.f7.length d7, .slice B8 y.f8.length d8, .slice B9 y.f9.length d9]] W fun e W' => e = .returned (.bool (sameS x y)) ∧ Below W.heap.size W W'
set_option maxRecDepth 100000 in
set_option maxHeartbeats 4000000 in
theorem equal_st (A1 A2 : Option Addr) (c1 c2 : Nat) (l m : List SS) (w : World) (h1 : kS.C w A1 l.length l) (h2 : kS.C w A2 m.length m) (hf : ∀ x ∈ l, ∀ y, SameAtS x y) :
    Calls Tryd.prog 75 #[.slice A1 l.length c1, .slice A2 m.length c2, .func (.func 46) #[] #[]] w fun e w' => e = .returned (.bool (eqL sameS l m)) ∧ Below w.heap.size w w' := by
  have l1 : l.length ≤ 9223372036854775807 := h1.2.1
  have l2 : m.length ≤ 9223372036854775807 := h2.2.1
  have H1 := Lx.Hd.mk h1
  have H2 := Lx.Hd.mk h2
  have HF := Lx.Hd.mk hf
  clear h1 h2 hf
  by_cases hne : l.length = m.length
  · go_enter Tryd.func75, Tryd.ntmps75
    go_wp2
    go_loopw [17] (fun t17 wr => ∃ i : Nat, i ≤ l.length ∧ t17 = .int .i64 i ∧ eqL sameS l m = eqL sameS (l.drop i) (m.drop i) ∧ Below w.heap.size w wr) (fun t17 _ => l.length - (intOf t17).toNat)
    case atStart => exact ⟨0, Nat.zero_le _, rfl, rfl, Below.refl _ _⟩
    case round =>
      have HNE := Lx.Hd.mk hne
      obtain ⟨i, hi, rfl, hS, hB⟩ := hrel
      by_cases hlt : i < l.length
      · clear hne
        have hlm : i < m.length := by have := HNE.out; omega
        obtain ⟨ad1, A5, c5, A6, c6, A7, c7, A8, c8, A9, c9, rfl, p0, p1, p2, p3, p4, p5, p6, p7, p8, p9, k5, g5, k6, g6, k7, g7, k8, g8, k9, g9⟩ := at_T38 H1.out i (by omega) (by omega)
        obtain ⟨ad2, B5, d5, B6, d6, B7, d7, B8, d8, B9, d9, rfl, q0, q1, q2, q3, q4, q5, q6, q7, q8, q9, m5, n5, m6, n6, m7, n7, m8, n8, m9, n9⟩ := at_T38 H2.out i (by omega) (by omega)
        have ex : rd_T38 l i = l[i] := by unfold rd_T38; rw [Int.toNat_natCast, List.getD_eq_getElem?_getD, List.getElem?_eq_getElem hlt]; rfl
        have ey : rd_T38 m i = m[i] := by unfold rd_T38; rw [Int.toNat_natCast, List.getD_eq_getElem?_getD, List.getElem?_eq_getElem hlm]; rfl
        rw [ex] at p0 p1 p2 p3 p4 p5 p6 p7 p8 p9 k5 g5 k6 g6 k7 g7 k8 g8 k9 g9
        rw [ey] at q0 q1 q2 q3 q4 q5 q6 q7 q8 q9 m5 n5 m6 n6 m7 n7 m8 n8 m9 n9
        rw [Int.toNat_natCast] at p0 p1 p2 p3 p4 p5 p6 p7 p8 p9 q0 q1 q2 q3 q4 q5 q6 q7 q8 q9
        rw [List.drop_eq_getElem_cons hlt, List.drop_eq_getElem_cons hlm, eqL] at hS
        have HSt := Lx.Hd.mk (HF.out l[i] (List.getElem_mem hlt) m[i])
        generalize l[i] = x at *
        generalize m[i] = y at *
        clear ex ey
        have a0 := pw_cell_below hB p0; have a1 := pw_cell_below hB p1; have a2 := pw_cell_below hB p2; have a3 := pw_cell_below hB p3; have a4 := pw_cell_below hB p4; have a5 := pw_cell_below hB p5; have a6 := pw_cell_below hB p6; have a7 := pw_cell_below hB p7; have a8 := pw_cell_below hB p8; have a9 := pw_cell_below hB p9
        have HB := Lx.Hd.mk hB
        have HS := Lx.Hd.mk hS
        have HG1 : Lx.Hd (RowsS w x A5 A6 A7 A8 A9 c5 c6 c7 c8 c9) := Lx.Hd.mk ⟨g5, g6, g7, g8, g9, k5, k6, k7, k8, k9⟩
        have HG2 : Lx.Hd (RowsS w y B5 B6 B7 B8 B9 d5 d6 d7 d8 d9) := Lx.Hd.mk ⟨n5, n6, n7, n8, n9, m5, m6, m7, m8, m9⟩
        have HQ := Lx.Hd.mk (And.intro q0 (And.intro q1 (And.intro q2 (And.intro q3 (And.intro q4 (And.intro q5 (And.intro q6 (And.intro q7 (And.intro q8 q9)))))))))
        clear p0 p1 p2 p3 p4 p5 p6 p7 p8 p9 q0 q1 q2 q3 q4 q5 q6 q7 q8 q9 hB hS g5 k5 n5 m5 g6 k6 n6 m6 g7 k7 n7 m7 g8 k8 n8 m8 g9 k9 n9 m9
        go_upto_region 6 with (fail)
        refine name_world fun W1 hW1 => ?_
        have hb1 : W1.heap[wr.heap.size]? = some (.cells #[.int .i64 x.f0, .int .i64 x.f1, .int .i64 x.f2, .int .i64 x.f3, .string x.f4, .slice A5 x.f5.length c5, .slice A6 x.f6.length c6, .slice A7 x.f7.length c7, .slice A8 x.f8.length c8, .slice A9 x.f9.length c9] 38 (0, 0)) := by rw [hW1]; exact World.alloc_heap_new wr _
        have hB1 : Below w.heap.size w W1 := by rw [hW1]; exact HB.out.trans (((Below.refl _ wr).alloc (Nat.le_refl _) _).mono HB.out.size)
        have hs1 : W1.heap.size = wr.heap.size + 1 := by rw [hW1]; simp
        obtain ⟨q0, q1, q2, q3, q4, q5, q6, q7, q8, q9⟩ := HQ.out
        have b0 := pw_cell_below hB1 q0; have b1 := pw_cell_below hB1 q1; have b2 := pw_cell_below hB1 q2; have b3 := pw_cell_below hB1 q3; have b4 := pw_cell_below hB1 q4; have b5 := pw_cell_below hB1 q5; have b6 := pw_cell_below hB1 q6; have b7 := pw_cell_below hB1 q7; have b8 := pw_cell_below hB1 q8; have b9 := pw_cell_below hB1 q9
        clear q0 q1 q2 q3 q4 q5 q6 q7 q8 q9 hW1 a0 a1 a2 a3 a4 a5 a6 a7 a8 a9
        have HB1 := Lx.Hd.mk hB1
        have HK1 := Lx.Hd.mk hb1
        clear hB1 hb1
        go_upto_region 7 with (fail)
        refine name_world fun W2 hW2 => ?_
        have hb2 : W2.heap[wr.heap.size + 1]? = some (.cells #[.int .i64 y.f0, .int .i64 y.f1, .int .i64 y.f2, .int .i64 y.f3, .string y.f4, .slice B5 y.f5.length d5, .slice B6 y.f6.length d6, .slice B7 y.f7.length d7, .slice B8 y.f8.length d8, .slice B9 y.f9.length d9] 38 (0, 0)) := by rw [hW2, ← hs1]; exact World.alloc_heap_new W1 _
        have hb1 : W2.heap[wr.heap.size]? = some (.cells #[.int .i64 x.f0, .int .i64 x.f1, .int .i64 x.f2, .int .i64 x.f3, .string x.f4, .slice A5 x.f5.length c5, .slice A6 x.f6.length c6, .slice A7 x.f7.length c7, .slice A8 x.f8.length c8, .slice A9 x.f9.length c9] 38 (0, 0)) := by rw [hW2]; exact (Below.heap_alloc _ _ _ (by omega)).trans HK1.out
        have HB2 : Lx.Hd (Below w.heap.size w W2) := Lx.Hd.mk (by rw [hW2]; exact HB1.out.trans (((Below.refl _ W1).alloc (Nat.le_refl _) _).mono HB1.out.size))
        have cx : ∀ j u, (#[.int .i64 x.f0, .int .i64 x.f1, .int .i64 x.f2, .int .i64 x.f3, .string x.f4, .slice A5 x.f5.length c5, .slice A6 x.f6.length c6, .slice A7 x.f7.length c7, .slice A8 x.f8.length c8, .slice A9 x.f9.length c9] : Array Value)[j]? = some u → W2.cell? ⟨wr.heap.size, j, none⟩ = some u := fun j u h => by unfold World.cell?; rw [hb1]; exact h
        have cy : ∀ j u, (#[.int .i64 y.f0, .int .i64 y.f1, .int .i64 y.f2, .int .i64 y.f3, .string y.f4, .slice B5 y.f5.length d5, .slice B6 y.f6.length d6, .slice B7 y.f7.length d7, .slice B8 y.f8.length d8, .slice B9 y.f9.length d9] : Array Value)[j]? = some u → W2.cell? ⟨wr.heap.size + 1, j, none⟩ = some u := fun j u h => by unfold World.cell?; rw [hb2]; exact h
        have x0 := cx 0 _ rfl; have x1 := cx 1 _ rfl; have x2 := cx 2 _ rfl; have x3 := cx 3 _ rfl; have x4 := cx 4 _ rfl; have x5 := cx 5 _ rfl; have x6 := cx 6 _ rfl; have x7 := cx 7 _ rfl; have x8 := cx 8 _ rfl; have x9 := cx 9 _ rfl
        have y0 := cy 0 _ rfl; have y1 := cy 1 _ rfl; have y2 := cy 2 _ rfl; have y3 := cy 3 _ rfl; have y4 := cy 4 _ rfl; have y5 := cy 5 _ rfl; have y6 := cy 6 _ rfl; have y7 := cy 7 _ rfl; have y8 := cy 8 _ rfl; have y9 := cy 9 _ rfl
        clear cx cy hb1 hb2 hW2 b0 b1 b2 b3 b4 b5 b6 b7 b8 b9
        have HC := Lx.Hd.mk (HSt.out A5 A6 A7 A8 A9 c5 c6 c7 c8 c9 B5 B6 B7 B8 B9 d5 d6 d7 d8 d9 W2 (RowsS.below HG1.out HB2.out) (RowsS.below HG2.out HB2.out))
        cases hsm : sameS x y
        all_goals
          go_wp2_with (go_at_call 46; refine HC.out.mono ?_; rw [hsm]; rintro e W3 ⟨rfl, hb⟩; have HB3 : Lx.Hd (Below w.heap.size w W3) := Lx.Hd.mk (HB2.out.trans (hb.mono HB2.out.size)); clear hb)
        · go_ret
          exact ⟨by rw [HS.out, hsm]; rfl, HB3.out⟩
        · exact ⟨⟨i + 1, hlt, by go_num, by rw [HS.out, hsm, Bool.true_and], HB3.out⟩, by simp [intOf]; omega⟩
      · have hil : i = l.length := by omega
        rw [hil, List.drop_length, HNE.out, List.drop_length] at hS
        have HS := Lx.Hd.mk hS
        have HB := Lx.Hd.mk hB
        clear hS hB
        go_wp2
        go_ret
        exact ⟨by rw [HS.out]; rfl, HB.out⟩
  · have hn : ¬ (l.length : Int) = (m.length : Int) := by omega
    go_enter Tryd.func75, Tryd.ntmps75
    go_wp2
    go_ret
    exact ⟨by rw [eqL_len sameS l m hne]; rfl, Below.refl _ _⟩
set_option maxRecDepth 100000 in
set_option maxHeartbeats 8000000 in
theorem sameStmt_step (x y : SS) (A5 A6 A7 A8 A9 : Option Addr) (c5 c6 c7 c8 c9 : Nat) (B5 B6 B7 B8 B9 : Option Addr) (d5 d6 d7 d8 d9 : Nat) (w : World) (hA : RowsS w x A5 A6 A7 A8 A9 c5 c6 c7 c8 c9) (hB : RowsS w y B5 B6 B7 B8 B9 d5 d6 d7 d8 d9) (hf : (∀ a ∈ x.f8, ∀ b, SameAtS a b) ∧ (∀ a ∈ x.f9, ∀ b, SameAtS a b)) (he : ∀ a b, SameAt a b) (hl : x.f5.length ≤ c5 ∧ y.f5.length ≤ d5) :
    Calls Tryd.prog 46 #[.agg #[.int .i64 x.f0, .int .i64 x.f1, .int .i64 x.f2, .int .i64 x.f3, .string x.f4, .slice A5 x.f5.length c5, .slice A6 x.f6.length c6, .slice A7 x.f7.length c7, .slice A8 x.f8.length c8, .slice A9 x.f9.length c9], .agg #[.int .i64 y.f0, .int .i64 y.f1, .int .i64 y.f2, .int .i64 y.f3, .string y.f4, .slice B5 y.f5.length d5, .slice B6 y.f6.length d6, .slice B7 y.f7.length d7, .slice B8 y.f8.length d8, .slice B9 y.f9.length d9]] w fun e w' => e = .returned (.bool (sameS x y)) ∧ Below w.heap.size w w' := by
  have HC := Lx.Hd.mk (And.intro hA hB)
  clear hA hB
  have HX0 := Lx.Hd.mk hf
  clear hf
  have HX1 := Lx.Hd.mk he
  clear he
  have HX2 := Lx.Hd.mk hl
  clear hl
  go_enter Tryd.func46, Tryd.ntmps46
  go_upto_region 1 with (fail)
  refine name_world fun W2 hW2 => ?_
  have HB0 : Lx.Hd (Below w.heap.size w W2) := Lx.Hd.mk (by rw [hW2]; exact below_alloc (below_alloc (Below.refl _ _) _) _)
  have z1 : (w.alloc (.cells #[.int .i64 x.f0, .int .i64 x.f1, .int .i64 x.f2, .int .i64 x.f3, .string x.f4, .slice A5 x.f5.length c5, .slice A6 x.f6.length c6, .slice A7 x.f7.length c7, .slice A8 x.f8.length c8, .slice A9 x.f9.length c9] 38)).heap.size = w.heap.size + 1 := by simp
  have hb1 : W2.heap[w.heap.size]? = some (.cells #[.int .i64 x.f0, .int .i64 x.f1, .int .i64 x.f2, .int .i64 x.f3, .string x.f4, .slice A5 x.f5.length c5, .slice A6 x.f6.length c6, .slice A7 x.f7.length c7, .slice A8 x.f8.length c8, .slice A9 x.f9.length c9] 38 (0, 0)) := by rw [hW2]; exact blk_alloc (World.alloc_heap_new w _) _
  have hb2 : W2.heap[w.heap.size + 1]? = some (.cells #[.int .i64 y.f0, .int .i64 y.f1, .int .i64 y.f2, .int .i64 y.f3, .string y.f4, .slice B5 y.f5.length d5, .slice B6 y.f6.length d6, .slice B7 y.f7.length d7, .slice B8 y.f8.length d8, .slice B9 y.f9.length d9] 38 (0, 0)) := by rw [hW2, ← z1]; exact World.alloc_heap_new _ _
  have BC1 := Lx.Hd.mk (bkS_of hb1)
  have BC2 := Lx.Hd.mk (bkS_of hb2)
  have HC2 : Lx.Hd (RowsS W2 x A5 A6 A7 A8 A9 c5 c6 c7 c8 c9 ∧ RowsS W2 y B5 B6 B7 B8 B9 d5 d6 d7 d8 d9) := Lx.Hd.mk ⟨RowsS.below HC.out.1 HB0.out, RowsS.below HC.out.2 HB0.out⟩
  have HB : Lx.Hd (Below W2.heap.size W2 W2) := Lx.Hd.mk (Below.refl _ _)
  clear hW2 z1 hb1 hb2 HC
  generalize w.heap.size = bx at BC1 BC2 ⊢
  obtain ⟨p0, p1, p2, p3, p4, p5, p6, p7, p8, p9⟩ := BC1.out _ HB.out
  obtain ⟨q0, q1, q2, q3, q4, q5, q6, q7, q8, q9⟩ := BC2.out _ HB.out
  cases hs0 : x.f0 == y.f0
  · go_wp2_with (first | fail)
    go_ret
    exact ⟨by rw [sameS_eq, hs0]; rfl, bto HB0 HB⟩
  cases hs1 : x.f2 == y.f2
  · go_wp2_with (first | fail)
    go_ret
    exact ⟨by rw [sameS_eq, hs0, hs1]; rfl, bto HB0 HB⟩
  cases hs2 : x.f3 == y.f3
  · go_wp2_with (first | fail)
    go_ret
    exact ⟨by rw [sameS_eq, hs0, hs1, hs2]; rfl, bto HB0 HB⟩
  cases hs3 : x.f4.toList == y.f4.toList
  · go_wp2_with (first | fail)
    go_ret
    exact ⟨by rw [sameS_eq, hs0, hs1, hs2, hs3]; rfl, bto HB0 HB⟩
  cases hs4 : eqT x.f5 y.f5
  · go_wp2_with (first | (go_at_call 91; (with_reducible refine (equalT_calls x.f5 y.f5 A5 B5 c5 d5 _ ?s1 HX2.out.1 ?s2 HX2.out.2).mono ?_); (case s1 => exact (RowsS.below HC2.out.1 HB.out).1); (case s2 => exact (RowsS.below HC2.out.2 HB.out).1); rw [hs4]; rintro r W3 ⟨rfl, hb⟩; replace HB := bst HB hb; clear hb; clear p0 q0 p1 q1 p2 q2 p3 q3 p4 q4 p5 q5 p6 q6 p7 q7 p8 q8 p9 q9; obtain ⟨p0, p1, p2, p3, p4, p5, p6, p7, p8, p9⟩ := BC1.out _ HB.out; obtain ⟨q0, q1, q2, q3, q4, q5, q6, q7, q8, q9⟩ := BC2.out _ HB.out) | fail)
    go_ret
    exact ⟨by rw [sameS_eq, hs0, hs1, hs2, hs3, hs4]; rfl, bto HB0 HB⟩
  cases hs5 : eqL sameE x.f6 y.f6
  · go_wp2_with (first | (go_at_call 91; (with_reducible refine (equalT_calls x.f5 y.f5 A5 B5 c5 d5 _ ?s1 HX2.out.1 ?s2 HX2.out.2).mono ?_); (case s1 => exact (RowsS.below HC2.out.1 HB.out).1); (case s2 => exact (RowsS.below HC2.out.2 HB.out).1); rw [hs4]; rintro r W3 ⟨rfl, hb⟩; replace HB := bst HB hb; clear hb; clear p0 q0 p1 q1 p2 q2 p3 q3 p4 q4 p5 q5 p6 q6 p7 q7 p8 q8 p9 q9; obtain ⟨p0, p1, p2, p3, p4, p5, p6, p7, p8, p9⟩ := BC1.out _ HB.out; obtain ⟨q0, q1, q2, q3, q4, q5, q6, q7, q8, q9⟩ := BC2.out _ HB.out) | (go_at_call 81; (with_reducible refine (equal_ex A6 B6 c6 d6 x.f6 y.f6 _ ?s1 ?s2 (fun a _ b => HX1.out a b)).mono ?_); (case s1 => exact (RowsS.below HC2.out.1 HB.out).2.1); (case s2 => exact (RowsS.below HC2.out.2 HB.out).2.1); rw [hs5]; rintro r W3 ⟨rfl, hb⟩; replace HB := bst HB hb; clear hb; clear p0 q0 p1 q1 p2 q2 p3 q3 p4 q4 p5 q5 p6 q6 p7 q7 p8 q8 p9 q9; obtain ⟨p0, p1, p2, p3, p4, p5, p6, p7, p8, p9⟩ := BC1.out _ HB.out; obtain ⟨q0, q1, q2, q3, q4, q5, q6, q7, q8, q9⟩ := BC2.out _ HB.out) | fail)
    go_ret
    exact ⟨by rw [sameS_eq, hs0, hs1, hs2, hs3, hs4, hs5]; rfl, bto HB0 HB⟩
  cases hs6 : eqL sameE x.f7 y.f7
  · go_wp2_with (first | (go_at_call 91; (with_reducible refine (equalT_calls x.f5 y.f5 A5 B5 c5 d5 _ ?s1 HX2.out.1 ?s2 HX2.out.2).mono ?_); (case s1 => exact (RowsS.below HC2.out.1 HB.out).1); (case s2 => exact (RowsS.below HC2.out.2 HB.out).1); rw [hs4]; rintro r W3 ⟨rfl, hb⟩; replace HB := bst HB hb; clear hb; clear p0 q0 p1 q1 p2 q2 p3 q3 p4 q4 p5 q5 p6 q6 p7 q7 p8 q8 p9 q9; obtain ⟨p0, p1, p2, p3, p4, p5, p6, p7, p8, p9⟩ := BC1.out _ HB.out; obtain ⟨q0, q1, q2, q3, q4, q5, q6, q7, q8, q9⟩ := BC2.out _ HB.out) | (go_at_call 81; (with_reducible refine (equal_ex A6 B6 c6 d6 x.f6 y.f6 _ ?s1 ?s2 (fun a _ b => HX1.out a b)).mono ?_); (case s1 => exact (RowsS.below HC2.out.1 HB.out).2.1); (case s2 => exact (RowsS.below HC2.out.2 HB.out).2.1); rw [hs5]; rintro r W3 ⟨rfl, hb⟩; replace HB := bst HB hb; clear hb; clear p0 q0 p1 q1 p2 q2 p3 q3 p4 q4 p5 q5 p6 q6 p7 q7 p8 q8 p9 q9; obtain ⟨p0, p1, p2, p3, p4, p5, p6, p7, p8, p9⟩ := BC1.out _ HB.out; obtain ⟨q0, q1, q2, q3, q4, q5, q6, q7, q8, q9⟩ := BC2.out _ HB.out) | (go_at_call 81; (with_reducible refine (equal_ex A7 B7 c7 d7 x.f7 y.f7 _ ?s1 ?s2 (fun a _ b => HX1.out a b)).mono ?_); (case s1 => exact (RowsS.below HC2.out.1 HB.out).2.2.1); (case s2 => exact (RowsS.below HC2.out.2 HB.out).2.2.1); rw [hs6]; rintro r W3 ⟨rfl, hb⟩; replace HB := bst HB hb; clear hb; clear p0 q0 p1 q1 p2 q2 p3 q3 p4 q4 p5 q5 p6 q6 p7 q7 p8 q8 p9 q9; obtain ⟨p0, p1, p2, p3, p4, p5, p6, p7, p8, p9⟩ := BC1.out _ HB.out; obtain ⟨q0, q1, q2, q3, q4, q5, q6, q7, q8, q9⟩ := BC2.out _ HB.out) | fail)
    go_ret
    exact ⟨by rw [sameS_eq, hs0, hs1, hs2, hs3, hs4, hs5, hs6]; rfl, bto HB0 HB⟩
  cases hs7 : eqL sameS x.f8 y.f8
  · go_wp2_with (first | (go_at_call 91; (with_reducible refine (equalT_calls x.f5 y.f5 A5 B5 c5 d5 _ ?s1 HX2.out.1 ?s2 HX2.out.2).mono ?_); (case s1 => exact (RowsS.below HC2.out.1 HB.out).1); (case s2 => exact (RowsS.below HC2.out.2 HB.out).1); rw [hs4]; rintro r W3 ⟨rfl, hb⟩; replace HB := bst HB hb; clear hb; clear p0 q0 p1 q1 p2 q2 p3 q3 p4 q4 p5 q5 p6 q6 p7 q7 p8 q8 p9 q9; obtain ⟨p0, p1, p2, p3, p4, p5, p6, p7, p8, p9⟩ := BC1.out _ HB.out; obtain ⟨q0, q1, q2, q3, q4, q5, q6, q7, q8, q9⟩ := BC2.out _ HB.out) | (go_at_call 81; (with_reducible refine (equal_ex A6 B6 c6 d6 x.f6 y.f6 _ ?s1 ?s2 (fun a _ b => HX1.out a b)).mono ?_); (case s1 => exact (RowsS.below HC2.out.1 HB.out).2.1); (case s2 => exact (RowsS.below HC2.out.2 HB.out).2.1); rw [hs5]; rintro r W3 ⟨rfl, hb⟩; replace HB := bst HB hb; clear hb; clear p0 q0 p1 q1 p2 q2 p3 q3 p4 q4 p5 q5 p6 q6 p7 q7 p8 q8 p9 q9; obtain ⟨p0, p1, p2, p3, p4, p5, p6, p7, p8, p9⟩ := BC1.out _ HB.out; obtain ⟨q0, q1, q2, q3, q4, q5, q6, q7, q8, q9⟩ := BC2.out _ HB.out) | (go_at_call 81; (with_reducible refine (equal_ex A7 B7 c7 d7 x.f7 y.f7 _ ?s1 ?s2 (fun a _ b => HX1.out a b)).mono ?_); (case s1 => exact (RowsS.below HC2.out.1 HB.out).2.2.1); (case s2 => exact (RowsS.below HC2.out.2 HB.out).2.2.1); rw [hs6]; rintro r W3 ⟨rfl, hb⟩; replace HB := bst HB hb; clear hb; clear p0 q0 p1 q1 p2 q2 p3 q3 p4 q4 p5 q5 p6 q6 p7 q7 p8 q8 p9 q9; obtain ⟨p0, p1, p2, p3, p4, p5, p6, p7, p8, p9⟩ := BC1.out _ HB.out; obtain ⟨q0, q1, q2, q3, q4, q5, q6, q7, q8, q9⟩ := BC2.out _ HB.out) | (go_at_call 75; (with_reducible refine (equal_st A8 B8 c8 d8 x.f8 y.f8 _ ?s1 ?s2 HX0.out.1).mono ?_); (case s1 => exact (RowsS.below HC2.out.1 HB.out).2.2.2.1); (case s2 => exact (RowsS.below HC2.out.2 HB.out).2.2.2.1); rw [hs7]; rintro r W3 ⟨rfl, hb⟩; replace HB := bst HB hb; clear hb; clear p0 q0 p1 q1 p2 q2 p3 q3 p4 q4 p5 q5 p6 q6 p7 q7 p8 q8 p9 q9; obtain ⟨p0, p1, p2, p3, p4, p5, p6, p7, p8, p9⟩ := BC1.out _ HB.out; obtain ⟨q0, q1, q2, q3, q4, q5, q6, q7, q8, q9⟩ := BC2.out _ HB.out) | fail)
    go_ret
    exact ⟨by rw [sameS_eq, hs0, hs1, hs2, hs3, hs4, hs5, hs6, hs7]; rfl, bto HB0 HB⟩
  cases hs8 : eqL sameS x.f9 y.f9
  · go_wp2_with (first | (go_at_call 91; (with_reducible refine (equalT_calls x.f5 y.f5 A5 B5 c5 d5 _ ?s1 HX2.out.1 ?s2 HX2.out.2).mono ?_); (case s1 => exact (RowsS.below HC2.out.1 HB.out).1); (case s2 => exact (RowsS.below HC2.out.2 HB.out).1); rw [hs4]; rintro r W3 ⟨rfl, hb⟩; replace HB := bst HB hb; clear hb; clear p0 q0 p1 q1 p2 q2 p3 q3 p4 q4 p5 q5 p6 q6 p7 q7 p8 q8 p9 q9; obtain ⟨p0, p1, p2, p3, p4, p5, p6, p7, p8, p9⟩ := BC1.out _ HB.out; obtain ⟨q0, q1, q2, q3, q4, q5, q6, q7, q8, q9⟩ := BC2.out _ HB.out) | (go_at_call 81; (with_reducible refine (equal_ex A6 B6 c6 d6 x.f6 y.f6 _ ?s1 ?s2 (fun a _ b => HX1.out a b)).mono ?_); (case s1 => exact (RowsS.below HC2.out.1 HB.out).2.1); (case s2 => exact (RowsS.below HC2.out.2 HB.out).2.1); rw [hs5]; rintro r W3 ⟨rfl, hb⟩; replace HB := bst HB hb; clear hb; clear p0 q0 p1 q1 p2 q2 p3 q3 p4 q4 p5 q5 p6 q6 p7 q7 p8 q8 p9 q9; obtain ⟨p0, p1, p2, p3, p4, p5, p6, p7, p8, p9⟩ := BC1.out _ HB.out; obtain ⟨q0, q1, q2, q3, q4, q5, q6, q7, q8, q9⟩ := BC2.out _ HB.out) | (go_at_call 81; (with_reducible refine (equal_ex A7 B7 c7 d7 x.f7 y.f7 _ ?s1 ?s2 (fun a _ b => HX1.out a b)).mono ?_); (case s1 => exact (RowsS.below HC2.out.1 HB.out).2.2.1); (case s2 => exact (RowsS.below HC2.out.2 HB.out).2.2.1); rw [hs6]; rintro r W3 ⟨rfl, hb⟩; replace HB := bst HB hb; clear hb; clear p0 q0 p1 q1 p2 q2 p3 q3 p4 q4 p5 q5 p6 q6 p7 q7 p8 q8 p9 q9; obtain ⟨p0, p1, p2, p3, p4, p5, p6, p7, p8, p9⟩ := BC1.out _ HB.out; obtain ⟨q0, q1, q2, q3, q4, q5, q6, q7, q8, q9⟩ := BC2.out _ HB.out) | (go_at_call 75; (with_reducible refine (equal_st A8 B8 c8 d8 x.f8 y.f8 _ ?s1 ?s2 HX0.out.1).mono ?_); (case s1 => exact (RowsS.below HC2.out.1 HB.out).2.2.2.1); (case s2 => exact (RowsS.below HC2.out.2 HB.out).2.2.2.1); rw [hs7]; rintro r W3 ⟨rfl, hb⟩; replace HB := bst HB hb; clear hb; clear p0 q0 p1 q1 p2 q2 p3 q3 p4 q4 p5 q5 p6 q6 p7 q7 p8 q8 p9 q9; obtain ⟨p0, p1, p2, p3, p4, p5, p6, p7, p8, p9⟩ := BC1.out _ HB.out; obtain ⟨q0, q1, q2, q3, q4, q5, q6, q7, q8, q9⟩ := BC2.out _ HB.out) | (go_at_call 75; (with_reducible refine (equal_st A9 B9 c9 d9 x.f9 y.f9 _ ?s1 ?s2 HX0.out.2).mono ?_); (case s1 => exact (RowsS.below HC2.out.1 HB.out).2.2.2.2.1); (case s2 => exact (RowsS.below HC2.out.2 HB.out).2.2.2.2.1); rw [hs8]; rintro r W3 ⟨rfl, hb⟩; replace HB := bst HB hb; clear hb; clear p0 q0 p1 q1 p2 q2 p3 q3 p4 q4 p5 q5 p6 q6 p7 q7 p8 q8 p9 q9; obtain ⟨p0, p1, p2, p3, p4, p5, p6, p7, p8, p9⟩ := BC1.out _ HB.out; obtain ⟨q0, q1, q2, q3, q4, q5, q6, q7, q8, q9⟩ := BC2.out _ HB.out) | fail)
    go_ret
    exact ⟨by rw [sameS_eq, hs0, hs1, hs2, hs3, hs4, hs5, hs6, hs7, hs8]; rfl, bto HB0 HB⟩
  go_wp2_with (first | (go_at_call 91; (with_reducible refine (equalT_calls x.f5 y.f5 A5 B5 c5 d5 _ ?s1 HX2.out.1 ?s2 HX2.out.2).mono ?_); (case s1 => exact (RowsS.below HC2.out.1 HB.out).1); (case s2 => exact (RowsS.below HC2.out.2 HB.out).1); rw [hs4]; rintro r W3 ⟨rfl, hb⟩; replace HB := bst HB hb; clear hb; clear p0 q0 p1 q1 p2 q2 p3 q3 p4 q4 p5 q5 p6 q6 p7 q7 p8 q8 p9 q9; obtain ⟨p0, p1, p2, p3, p4, p5, p6, p7, p8, p9⟩ := BC1.out _ HB.out; obtain ⟨q0, q1, q2, q3, q4, q5, q6, q7, q8, q9⟩ := BC2.out _ HB.out) | (go_at_call 81; (with_reducible refine (equal_ex A6 B6 c6 d6 x.f6 y.f6 _ ?s1 ?s2 (fun a _ b => HX1.out a b)).mono ?_); (case s1 => exact (RowsS.below HC2.out.1 HB.out).2.1); (case s2 => exact (RowsS.below HC2.out.2 HB.out).2.1); rw [hs5]; rintro r W3 ⟨rfl, hb⟩; replace HB := bst HB hb; clear hb; clear p0 q0 p1 q1 p2 q2 p3 q3 p4 q4 p5 q5 p6 q6 p7 q7 p8 q8 p9 q9; obtain ⟨p0, p1, p2, p3, p4, p5, p6, p7, p8, p9⟩ := BC1.out _ HB.out; obtain ⟨q0, q1, q2, q3, q4, q5, q6, q7, q8, q9⟩ := BC2.out _ HB.out) | (go_at_call 81; (with_reducible refine (equal_ex A7 B7 c7 d7 x.f7 y.f7 _ ?s1 ?s2 (fun a _ b => HX1.out a b)).mono ?_); (case s1 => exact (RowsS.below HC2.out.1 HB.out).2.2.1); (case s2 => exact (RowsS.below HC2.out.2 HB.out).2.2.1); rw [hs6]; rintro r W3 ⟨rfl, hb⟩; replace HB := bst HB hb; clear hb; clear p0 q0 p1 q1 p2 q2 p3 q3 p4 q4 p5 q5 p6 q6 p7 q7 p8 q8 p9 q9; obtain ⟨p0, p1, p2, p3, p4, p5, p6, p7, p8, p9⟩ := BC1.out _ HB.out; obtain ⟨q0, q1, q2, q3, q4, q5, q6, q7, q8, q9⟩ := BC2.out _ HB.out) | (go_at_call 75; (with_reducible refine (equal_st A8 B8 c8 d8 x.f8 y.f8 _ ?s1 ?s2 HX0.out.1).mono ?_); (case s1 => exact (RowsS.below HC2.out.1 HB.out).2.2.2.1); (case s2 => exact (RowsS.below HC2.out.2 HB.out).2.2.2.1); rw [hs7]; rintro r W3 ⟨rfl, hb⟩; replace HB := bst HB hb; clear hb; clear p0 q0 p1 q1 p2 q2 p3 q3 p4 q4 p5 q5 p6 q6 p7 q7 p8 q8 p9 q9; obtain ⟨p0, p1, p2, p3, p4, p5, p6, p7, p8, p9⟩ := BC1.out _ HB.out; obtain ⟨q0, q1, q2, q3, q4, q5, q6, q7, q8, q9⟩ := BC2.out _ HB.out) | (go_at_call 75; (with_reducible refine (equal_st A9 B9 c9 d9 x.f9 y.f9 _ ?s1 ?s2 HX0.out.2).mono ?_); (case s1 => exact (RowsS.below HC2.out.1 HB.out).2.2.2.2.1); (case s2 => exact (RowsS.below HC2.out.2 HB.out).2.2.2.2.1); rw [hs8]; rintro r W3 ⟨rfl, hb⟩; replace HB := bst HB hb; clear hb; clear p0 q0 p1 q1 p2 q2 p3 q3 p4 q4 p5 q5 p6 q6 p7 q7 p8 q8 p9 q9; obtain ⟨p0, p1, p2, p3, p4, p5, p6, p7, p8, p9⟩ := BC1.out _ HB.out; obtain ⟨q0, q1, q2, q3, q4, q5, q6, q7, q8, q9⟩ := BC2.out _ HB.out) | fail)
  go_ret
  exact ⟨by rw [sameS_eq, hs0, hs1, hs2, hs3, hs4, hs5, hs6, hs7, hs8]; rfl, bto HB0 HB⟩
theorem sameAtS_any : ∀ (D : Nat) (x : SS), deepS x ≤ D → ∀ y, SameAtS x y
  | 0, ⟨_, _, _, _, _, _, _, _, _, _⟩, h, _ => by rw [deepS] at h; omega
  | D + 1, ⟨a0, a1, a2, a3, a4, n, i, e, t, f⟩, h, y => by
    rw [deepS] at h
    intro A5 A6 A7 A8 A9 c5 c6 c7 c8 c9 B5 B6 B7 B8 B9 d5 d6 d7 d8 d9 W hA hB
    exact sameStmt_step ⟨a0, a1, a2, a3, a4, n, i, e, t, f⟩ y A5 A6 A7 A8 A9 c5 c6 c7 c8 c9 B5 B6 B7 B8 B9 d5 d6 d7 d8 d9 W hA hB
      ⟨fun a ha b => sameAtS_any D a (by have := deep_mem_S (l := t) ha; omega) b, fun a ha b => sameAtS_any D a (by have := deep_mem_S (l := f) ha; omega) b⟩
      (fun a b => sameAt_any (deepE a) a (Nat.le_refl _) b) ⟨hA.2.2.2.2.2.1, hB.2.2.2.2.2.1⟩
end Go.Proofs.YtgkhpecllhiidaaDoor.A
namespace Go.Proofs.YtgkhpecllhiidaaDoor.A
open Go.RowKit Go.Shelf Go.Proofs.YtgkhpecllhiidaaDoor.As Go.Proofs.YtgkhpecllhiidaaDoorW.PrintWords Go.Proofs.YtgkhpecllhiidaaDoorW.PrintLast Go.Proofs.YtgkhpecllhiidaaDoorW.PrintMore
def sameG (x y : SG) : Bool := x.f0.toList == y.f0.toList && (x.f1 == y.f1 && (x.f2 == y.f2 && eqN x.f3 y.f3))
theorem sameG_eq (x y : SG) : sameG x y = (x.f0.toList == y.f0.toList && (x.f1 == y.f1 && (x.f2 == y.f2 && eqN x.f3 y.f3))) := rfl
def sameT (x y : ST) : Bool := x.f0.toList == y.f0.toList && (x.f1 == y.f1 && x.f2 == y.f2)
theorem sameT_eq (x y : ST) : sameT x y = (x.f0.toList == y.f0.toList && (x.f1 == y.f1 && x.f2 == y.f2)) := rfl
def sameD (x y : SD) : Bool := x.f0 == y.f0 && (x.f1.toList == y.f1.toList && (eqQ x.f2 y.f2 && (x.f3 == y.f3 && (x.f4 == y.f4 && eqL sameS x.f5 y.f5))))
theorem sameD_eq (x y : SD) : sameD x y = (x.f0 == y.f0 && (x.f1.toList == y.f1.toList && (eqQ x.f2 y.f2 && (x.f3 == y.f3 && (x.f4 == y.f4 && eqL sameS x.f5 y.f5))))) := rfl
def sameP (x y : SP) : Bool := x.f0 == y.f0 && (eqL sameG x.f1 y.f1 && (eqL sameT x.f2 y.f2 && eqL sameD x.f3 y.f3))
theorem sameP_eq (x y : SP) : sameP x y = (x.f0 == y.f0 && (eqL sameG x.f1 y.f1 && (eqL sameT x.f2 y.f2 && eqL sameD x.f3 y.f3))) := rfl
def RowsG (W : World) (x : SG) (A3 : Option Addr) (c3 : Nat) : Prop := (Kd.int .u32).C W A3 x.f3.length x.f3 ∧ x.f3.length ≤ c3
theorem RowsG.below {W W' : World} {x : SG} {A3 : Option Addr} {c3 : Nat} (h : RowsG W x A3 c3) (hb : Below W.heap.size W W') : RowsG W' x A3 c3 := ⟨Kd.C_below h.1 hb, h.2⟩
def BkG (W : World) (b : Nat) (x : SG) (A3 : Option Addr) (c3 : Nat) : Prop := W.cell? ⟨b, 0, none⟩ = some (.string x.f0) ∧ W.cell? ⟨b, 1, none⟩ = some (.int .i64 x.f1) ∧ W.cell? ⟨b, 2, none⟩ = some (.int .i64 x.f2) ∧ W.cell? ⟨b, 3, none⟩ = some (.slice A3 x.f3.length c3) ∧ W.cell? ⟨b, 4, none⟩ = some (.int .i64 x.f4)
theorem bkG_of {W : World} {b : Nat} {x : SG} {A3 : Option Addr} {c3 : Nat} (h : W.heap[b]? = some (.cells #[.string x.f0, .int .i64 x.f1, .int .i64 x.f2, .slice A3 x.f3.length c3, .int .i64 x.f4] 99 (0, 0))) : ∀ W', Below W.heap.size W W' → BkG W' b x A3 c3 := fun W' hb => by
  have k := kept_cells h W' hb
  exact ⟨k 0 _ rfl, k 1 _ rfl, k 2 _ rfl, k 3 _ rfl, k 4 _ rfl⟩
set_option maxRecDepth 100000 in
set_option maxHeartbeats 8000000 in
theorem sameG_any (x y : SG) (A3 : Option Addr) (c3 : Nat) (B3 : Option Addr) (d3 : Nat) (w : World) (hA : RowsG w x A3 c3) (hB : RowsG w y B3 d3) (hl : x.f3.length ≤ c3 ∧ y.f3.length ≤ d3) :
    Calls Tryd.prog 68 #[.agg #[.string x.f0, .int .i64 x.f1, .int .i64 x.f2, .slice A3 x.f3.length c3, .int .i64 x.f4], .agg #[.string y.f0, .int .i64 y.f1, .int .i64 y.f2, .slice B3 y.f3.length d3, .int .i64 y.f4]] w fun e w' => e = .returned (.bool (sameG x y)) ∧ Below w.heap.size w w' := by
  have HC := Lx.Hd.mk (And.intro hA hB)
  clear hA hB
  have HX0 := Lx.Hd.mk hl
  clear hl
  go_enter Tryd.func68, Tryd.ntmps68
  go_upto_region 1 with (fail)
  refine name_world fun W2 hW2 => ?_
  have HB0 : Lx.Hd (Below w.heap.size w W2) := Lx.Hd.mk (by rw [hW2]; exact below_alloc (below_alloc (Below.refl _ _) _) _)
  have z1 : (w.alloc (.cells #[.string x.f0, .int .i64 x.f1, .int .i64 x.f2, .slice A3 x.f3.length c3, .int .i64 x.f4] 99)).heap.size = w.heap.size + 1 := by simp
  have hb1 : W2.heap[w.heap.size]? = some (.cells #[.string x.f0, .int .i64 x.f1, .int .i64 x.f2, .slice A3 x.f3.length c3, .int .i64 x.f4] 99 (0, 0)) := by rw [hW2]; exact blk_alloc (World.alloc_heap_new w _) _
  have hb2 : W2.heap[w.heap.size + 1]? = some (.cells #[.string y.f0, .int .i64 y.f1, .int .i64 y.f2, .slice B3 y.f3.length d3, .int .i64 y.f4] 99 (0, 0)) := by rw [hW2, ← z1]; exact World.alloc_heap_new _ _
  have BC1 := Lx.Hd.mk (bkG_of hb1)
  have BC2 := Lx.Hd.mk (bkG_of hb2)
  have HC2 : Lx.Hd (RowsG W2 x A3 c3 ∧ RowsG W2 y B3 d3) := Lx.Hd.mk ⟨RowsG.below HC.out.1 HB0.out, RowsG.below HC.out.2 HB0.out⟩
  have HB : Lx.Hd (Below W2.heap.size W2 W2) := Lx.Hd.mk (Below.refl _ _)
  clear hW2 z1 hb1 hb2 HC
  generalize w.heap.size = bx at BC1 BC2 ⊢
  obtain ⟨p0, p1, p2, p3, p4⟩ := BC1.out _ HB.out
  obtain ⟨q0, q1, q2, q3, q4⟩ := BC2.out _ HB.out
  cases hs0 : x.f0.toList == y.f0.toList
  · go_wp2_with (first | fail)
    go_ret
    exact ⟨by rw [sameG_eq, hs0]; rfl, bto HB0 HB⟩
  cases hs1 : x.f1 == y.f1
  · go_wp2_with (first | fail)
    go_ret
    exact ⟨by rw [sameG_eq, hs0, hs1]; rfl, bto HB0 HB⟩
  cases hs2 : x.f2 == y.f2
  · go_wp2_with (first | fail)
    go_ret
    exact ⟨by rw [sameG_eq, hs0, hs1, hs2]; rfl, bto HB0 HB⟩
  cases hs3 : eqN x.f3 y.f3
  · go_wp2_with (first | (go_at_call 69; (with_reducible refine (equalN_calls x.f3 y.f3 A3 B3 c3 d3 _ ?s1 HX0.out.1 ?s2 HX0.out.2).mono ?_); (case s1 => exact (RowsG.below HC2.out.1 HB.out).1); (case s2 => exact (RowsG.below HC2.out.2 HB.out).1); rw [hs3]; rintro r W3 ⟨rfl, hb⟩; replace HB := bst HB hb; clear hb; clear p0 q0 p1 q1 p2 q2 p3 q3 p4 q4; obtain ⟨p0, p1, p2, p3, p4⟩ := BC1.out _ HB.out; obtain ⟨q0, q1, q2, q3, q4⟩ := BC2.out _ HB.out) | fail)
    go_ret
    exact ⟨by rw [sameG_eq, hs0, hs1, hs2, hs3]; rfl, bto HB0 HB⟩
  go_wp2_with (first | (go_at_call 69; (with_reducible refine (equalN_calls x.f3 y.f3 A3 B3 c3 d3 _ ?s1 HX0.out.1 ?s2 HX0.out.2).mono ?_); (case s1 => exact (RowsG.below HC2.out.1 HB.out).1); (case s2 => exact (RowsG.below HC2.out.2 HB.out).1); rw [hs3]; rintro r W3 ⟨rfl, hb⟩; replace HB := bst HB hb; clear hb; clear p0 q0 p1 q1 p2 q2 p3 q3 p4 q4; obtain ⟨p0, p1, p2, p3, p4⟩ := BC1.out _ HB.out; obtain ⟨q0, q1, q2, q3, q4⟩ := BC2.out _ HB.out) | fail)
  go_ret
  exact ⟨by rw [sameG_eq, hs0, hs1, hs2, hs3]; rfl, bto HB0 HB⟩
def SameAtG (x y : SG) : Prop := ∀ (A3 : Option Addr) (c3 : Nat) (B3 : Option Addr) (d3 : Nat) (W : World), RowsG W x A3 c3 → RowsG W y B3 d3 →
  Calls Tryd.prog 68 #[.agg #[.string x.f0, .int .i64 x.f1, .int .i64 x.f2, .slice A3 x.f3.length c3, .int .i64 x.f4], .agg #[.string y.f0, .int .i64 y.f1, .int .i64 y.f2, .slice B3 y.f3.length d3, .int .i64 y.f4]] W fun e W' => e = .returned (.bool (sameG x y)) ∧ Below W.heap.size W W'
theorem sameAtG_any (x y : SG) : SameAtG x y := fun A3 c3 B3 d3 W hA hB => sameG_any x y A3 c3 B3 d3 W hA hB ⟨hA.2, hB.2⟩
set_option maxRecDepth 100000 in
set_option maxHeartbeats 4000000 in
theorem equal_gl (A1 A2 : Option Addr) (c1 c2 : Nat) (l m : List SG) (w : World) (h1 : kG.C w A1 l.length l) (h2 : kG.C w A2 m.length m) (hf : ∀ x ∈ l, ∀ y, SameAtG x y) :
    Calls Tryd.prog 67 #[.slice A1 l.length c1, .slice A2 m.length c2, .func (.func 68) #[] #[]] w fun e w' => e = .returned (.bool (eqL sameG l m)) ∧ Below w.heap.size w w' := by
  have l1 : l.length ≤ 9223372036854775807 := h1.2.1
  have l2 : m.length ≤ 9223372036854775807 := h2.2.1
  have H1 := Lx.Hd.mk h1
  have H2 := Lx.Hd.mk h2
  have HF := Lx.Hd.mk hf
  clear h1 h2 hf
  by_cases hne : l.length = m.length
  · go_enter Tryd.func67, Tryd.ntmps67
    go_wp2
    go_loopw [17] (fun t17 wr => ∃ i : Nat, i ≤ l.length ∧ t17 = .int .i64 i ∧ eqL sameG l m = eqL sameG (l.drop i) (m.drop i) ∧ Below w.heap.size w wr) (fun t17 _ => l.length - (intOf t17).toNat)
    case atStart => exact ⟨0, Nat.zero_le _, rfl, rfl, Below.refl _ _⟩
    case round =>
      have HNE := Lx.Hd.mk hne
      obtain ⟨i, hi, rfl, hS, hB⟩ := hrel
      by_cases hlt : i < l.length
      · clear hne
        have hlm : i < m.length := by have := HNE.out; omega
        obtain ⟨ad1, A3, c3, rfl, p0, p1, p2, p3, p4, k3, g3⟩ := at_T99 H1.out i (by omega) (by omega)
        obtain ⟨ad2, B3, d3, rfl, q0, q1, q2, q3, q4, m3, n3⟩ := at_T99 H2.out i (by omega) (by omega)
        have ex : rd_T99 l i = l[i] := by unfold rd_T99; rw [Int.toNat_natCast, List.getD_eq_getElem?_getD, List.getElem?_eq_getElem hlt]; rfl
        have ey : rd_T99 m i = m[i] := by unfold rd_T99; rw [Int.toNat_natCast, List.getD_eq_getElem?_getD, List.getElem?_eq_getElem hlm]; rfl
        rw [ex] at p0 p1 p2 p3 p4 k3 g3
        rw [ey] at q0 q1 q2 q3 q4 m3 n3
        rw [Int.toNat_natCast] at p0 p1 p2 p3 p4 q0 q1 q2 q3 q4
        rw [List.drop_eq_getElem_cons hlt, List.drop_eq_getElem_cons hlm, eqL] at hS
        have HSt := Lx.Hd.mk (HF.out l[i] (List.getElem_mem hlt) m[i])
        generalize l[i] = x at *
        generalize m[i] = y at *
        clear ex ey
        have a0 := pw_cell_below hB p0; have a1 := pw_cell_below hB p1; have a2 := pw_cell_below hB p2; have a3 := pw_cell_below hB p3; have a4 := pw_cell_below hB p4
        have HB := Lx.Hd.mk hB
        have HS := Lx.Hd.mk hS
        have HG1 : Lx.Hd (RowsG w x A3 c3) := Lx.Hd.mk ⟨g3, k3⟩
        have HG2 : Lx.Hd (RowsG w y B3 d3) := Lx.Hd.mk ⟨n3, m3⟩
        have HQ := Lx.Hd.mk (And.intro q0 (And.intro q1 (And.intro q2 (And.intro q3 q4))))
        clear p0 p1 p2 p3 p4 q0 q1 q2 q3 q4 hB hS g3 k3 n3 m3
        go_upto_region 6 with (fail)
        refine name_world fun W1 hW1 => ?_
        have hb1 : W1.heap[wr.heap.size]? = some (.cells #[.string x.f0, .int .i64 x.f1, .int .i64 x.f2, .slice A3 x.f3.length c3, .int .i64 x.f4] 99 (0, 0)) := by rw [hW1]; exact World.alloc_heap_new wr _
        have hB1 : Below w.heap.size w W1 := by rw [hW1]; exact HB.out.trans (((Below.refl _ wr).alloc (Nat.le_refl _) _).mono HB.out.size)
        have hs1 : W1.heap.size = wr.heap.size + 1 := by rw [hW1]; simp
        obtain ⟨q0, q1, q2, q3, q4⟩ := HQ.out
        have b0 := pw_cell_below hB1 q0; have b1 := pw_cell_below hB1 q1; have b2 := pw_cell_below hB1 q2; have b3 := pw_cell_below hB1 q3; have b4 := pw_cell_below hB1 q4
        clear q0 q1 q2 q3 q4 hW1 a0 a1 a2 a3 a4
        have HB1 := Lx.Hd.mk hB1
        have HK1 := Lx.Hd.mk hb1
        clear hB1 hb1
        go_upto_region 7 with (fail)
        refine name_world fun W2 hW2 => ?_
        have hb2 : W2.heap[wr.heap.size + 1]? = some (.cells #[.string y.f0, .int .i64 y.f1, .int .i64 y.f2, .slice B3 y.f3.length d3, .int .i64 y.f4] 99 (0, 0)) := by rw [hW2, ← hs1]; exact World.alloc_heap_new W1 _
        have hb1 : W2.heap[wr.heap.size]? = some (.cells #[.string x.f0, .int .i64 x.f1, .int .i64 x.f2, .slice A3 x.f3.length c3, .int .i64 x.f4] 99 (0, 0)) := by rw [hW2]; exact (Below.heap_alloc _ _ _ (by omega)).trans HK1.out
        have HB2 : Lx.Hd (Below w.heap.size w W2) := Lx.Hd.mk (by rw [hW2]; exact HB1.out.trans (((Below.refl _ W1).alloc (Nat.le_refl _) _).mono HB1.out.size))
        have cx : ∀ j u, (#[.string x.f0, .int .i64 x.f1, .int .i64 x.f2, .slice A3 x.f3.length c3, .int .i64 x.f4] : Array Value)[j]? = some u → W2.cell? ⟨wr.heap.size, j, none⟩ = some u := fun j u h => by unfold World.cell?; rw [hb1]; exact h
        have cy : ∀ j u, (#[.string y.f0, .int .i64 y.f1, .int .i64 y.f2, .slice B3 y.f3.length d3, .int .i64 y.f4] : Array Value)[j]? = some u → W2.cell? ⟨wr.heap.size + 1, j, none⟩ = some u := fun j u h => by unfold World.cell?; rw [hb2]; exact h
        have x0 := cx 0 _ rfl; have x1 := cx 1 _ rfl; have x2 := cx 2 _ rfl; have x3 := cx 3 _ rfl; have x4 := cx 4 _ rfl
        have y0 := cy 0 _ rfl; have y1 := cy 1 _ rfl; have y2 := cy 2 _ rfl; have y3 := cy 3 _ rfl; have y4 := cy 4 _ rfl
        clear cx cy hb1 hb2 hW2 b0 b1 b2 b3 b4
        have HC := Lx.Hd.mk (HSt.out A3 c3 B3 d3 W2 (RowsG.below HG1.out HB2.out) (RowsG.below HG2.out HB2.out))
        cases hsm : sameG x y
        all_goals
          go_wp2_with (go_at_call 68; refine HC.out.mono ?_; rw [hsm]; rintro e W3 ⟨rfl, hb⟩; have HB3 : Lx.Hd (Below w.heap.size w W3) := Lx.Hd.mk (HB2.out.trans (hb.mono HB2.out.size)); clear hb)
        · go_ret
          exact ⟨by rw [HS.out, hsm]; rfl, HB3.out⟩
        · exact ⟨⟨i + 1, hlt, by go_num, by rw [HS.out, hsm, Bool.true_and], HB3.out⟩, by simp [intOf]; omega⟩
      · have hil : i = l.length := by omega
        rw [hil, List.drop_length, HNE.out, List.drop_length] at hS
        have HS := Lx.Hd.mk hS
        have HB := Lx.Hd.mk hB
        clear hS hB
        go_wp2
        go_ret
        exact ⟨by rw [HS.out]; rfl, HB.out⟩
  · have hn : ¬ (l.length : Int) = (m.length : Int) := by omega
    go_enter Tryd.func67, Tryd.ntmps67
    go_wp2
    go_ret
    exact ⟨by rw [eqL_len sameG l m hne]; rfl, Below.refl _ _⟩
def RowsT (W : World) (x : ST) : Prop := True
theorem RowsT.below {W W' : World} {x : ST} (h : RowsT W x) (hb : Below W.heap.size W W') : RowsT W' x := trivial
def BkT (W : World) (b : Nat) (x : ST) : Prop := W.cell? ⟨b, 0, none⟩ = some (.string x.f0) ∧ W.cell? ⟨b, 1, none⟩ = some (.bool x.f1) ∧ W.cell? ⟨b, 2, none⟩ = some (.bool x.f2) ∧ W.cell? ⟨b, 3, none⟩ = some (.int .i64 x.f3)
theorem bkT_of {W : World} {b : Nat} {x : ST} (h : W.heap[b]? = some (.cells #[.string x.f0, .bool x.f1, .bool x.f2, .int .i64 x.f3] 105 (0, 0))) : ∀ W', Below W.heap.size W W' → BkT W' b x := fun W' hb => by
  have k := kept_cells h W' hb
  exact ⟨k 0 _ rfl, k 1 _ rfl, k 2 _ rfl, k 3 _ rfl⟩
set_option maxRecDepth 100000 in
set_option maxHeartbeats 8000000 in
theorem sameT_any (x y : ST) (w : World) (hA : RowsT w x) (hB : RowsT w y) :
    Calls Tryd.prog 71 #[.agg #[.string x.f0, .bool x.f1, .bool x.f2, .int .i64 x.f3], .agg #[.string y.f0, .bool y.f1, .bool y.f2, .int .i64 y.f3]] w fun e w' => e = .returned (.bool (sameT x y)) ∧ Below w.heap.size w w' := by
  have HC := Lx.Hd.mk (And.intro hA hB)
  clear hA hB
  go_enter Tryd.func71, Tryd.ntmps71
  go_upto_region 1 with (fail)
  refine name_world fun W2 hW2 => ?_
  have HB0 : Lx.Hd (Below w.heap.size w W2) := Lx.Hd.mk (by rw [hW2]; exact below_alloc (below_alloc (Below.refl _ _) _) _)
  have z1 : (w.alloc (.cells #[.string x.f0, .bool x.f1, .bool x.f2, .int .i64 x.f3] 105)).heap.size = w.heap.size + 1 := by simp
  have hb1 : W2.heap[w.heap.size]? = some (.cells #[.string x.f0, .bool x.f1, .bool x.f2, .int .i64 x.f3] 105 (0, 0)) := by rw [hW2]; exact blk_alloc (World.alloc_heap_new w _) _
  have hb2 : W2.heap[w.heap.size + 1]? = some (.cells #[.string y.f0, .bool y.f1, .bool y.f2, .int .i64 y.f3] 105 (0, 0)) := by rw [hW2, ← z1]; exact World.alloc_heap_new _ _
  have BC1 := Lx.Hd.mk (bkT_of hb1)
  have BC2 := Lx.Hd.mk (bkT_of hb2)
  have HC2 : Lx.Hd (RowsT W2 x ∧ RowsT W2 y) := Lx.Hd.mk ⟨RowsT.below HC.out.1 HB0.out, RowsT.below HC.out.2 HB0.out⟩
  have HB : Lx.Hd (Below W2.heap.size W2 W2) := Lx.Hd.mk (Below.refl _ _)
  clear hW2 z1 hb1 hb2 HC
  generalize w.heap.size = bx at BC1 BC2 ⊢
  obtain ⟨p0, p1, p2, p3⟩ := BC1.out _ HB.out
  obtain ⟨q0, q1, q2, q3⟩ := BC2.out _ HB.out
  cases hs0 : x.f0.toList == y.f0.toList
  · go_wp2_with (first | fail)
    go_ret
    exact ⟨by rw [sameT_eq, hs0]; rfl, bto HB0 HB⟩
  cases hs1 : x.f1 == y.f1
  · go_wp2_with (first | fail)
    go_ret
    exact ⟨by rw [sameT_eq, hs0, hs1]; rfl, bto HB0 HB⟩
  cases hs2 : x.f2 == y.f2
  · go_wp2_with (first | fail)
    go_ret
    exact ⟨by rw [sameT_eq, hs0, hs1, hs2]; rfl, bto HB0 HB⟩
  go_wp2_with (first | fail)
  go_ret
  exact ⟨by rw [sameT_eq, hs0, hs1, hs2]; rfl, bto HB0 HB⟩
def SameAtT (x y : ST) : Prop := ∀ (W : World), RowsT W x → RowsT W y →
  Calls Tryd.prog 71 #[.agg #[.string x.f0, .bool x.f1, .bool x.f2, .int .i64 x.f3], .agg #[.string y.f0, .bool y.f1, .bool y.f2, .int .i64 y.f3]] W fun e W' => e = .returned (.bool (sameT x y)) ∧ Below W.heap.size W W'
theorem sameAtT_any (x y : ST) : SameAtT x y := fun W hA hB => sameT_any x y W hA hB
set_option maxRecDepth 100000 in
set_option maxHeartbeats 4000000 in
theorem equal_gt (A1 A2 : Option Addr) (c1 c2 : Nat) (l m : List ST) (w : World) (h1 : kT.C w A1 l.length l) (h2 : kT.C w A2 m.length m) (hf : ∀ x ∈ l, ∀ y, SameAtT x y) :
    Calls Tryd.prog 70 #[.slice A1 l.length c1, .slice A2 m.length c2, .func (.func 71) #[] #[]] w fun e w' => e = .returned (.bool (eqL sameT l m)) ∧ Below w.heap.size w w' := by
  have l1 : l.length ≤ 9223372036854775807 := h1.2.1
  have l2 : m.length ≤ 9223372036854775807 := h2.2.1
  have H1 := Lx.Hd.mk h1
  have H2 := Lx.Hd.mk h2
  have HF := Lx.Hd.mk hf
  clear h1 h2 hf
  by_cases hne : l.length = m.length
  · go_enter Tryd.func70, Tryd.ntmps70
    go_wp2
    go_loopw [17] (fun t17 wr => ∃ i : Nat, i ≤ l.length ∧ t17 = .int .i64 i ∧ eqL sameT l m = eqL sameT (l.drop i) (m.drop i) ∧ Below w.heap.size w wr) (fun t17 _ => l.length - (intOf t17).toNat)
    case atStart => exact ⟨0, Nat.zero_le _, rfl, rfl, Below.refl _ _⟩
    case round =>
      have HNE := Lx.Hd.mk hne
      obtain ⟨i, hi, rfl, hS, hB⟩ := hrel
      by_cases hlt : i < l.length
      · clear hne
        have hlm : i < m.length := by have := HNE.out; omega
        obtain ⟨ad1, rfl, p0, p1, p2, p3⟩ := at_T105 H1.out i (by omega) (by omega)
        obtain ⟨ad2, rfl, q0, q1, q2, q3⟩ := at_T105 H2.out i (by omega) (by omega)
        have ex : rd_T105 l i = l[i] := by unfold rd_T105; rw [Int.toNat_natCast, List.getD_eq_getElem?_getD, List.getElem?_eq_getElem hlt]; rfl
        have ey : rd_T105 m i = m[i] := by unfold rd_T105; rw [Int.toNat_natCast, List.getD_eq_getElem?_getD, List.getElem?_eq_getElem hlm]; rfl
        rw [ex] at p0 p1 p2 p3 
        rw [ey] at q0 q1 q2 q3 
        rw [Int.toNat_natCast] at p0 p1 p2 p3 q0 q1 q2 q3
        rw [List.drop_eq_getElem_cons hlt, List.drop_eq_getElem_cons hlm, eqL] at hS
        have HSt := Lx.Hd.mk (HF.out l[i] (List.getElem_mem hlt) m[i])
        generalize l[i] = x at *
        generalize m[i] = y at *
        clear ex ey
        have a0 := pw_cell_below hB p0; have a1 := pw_cell_below hB p1; have a2 := pw_cell_below hB p2; have a3 := pw_cell_below hB p3
        have HB := Lx.Hd.mk hB
        have HS := Lx.Hd.mk hS
        have HG1 : Lx.Hd (RowsT w x) := Lx.Hd.mk trivial
        have HG2 : Lx.Hd (RowsT w y) := Lx.Hd.mk trivial
        have HQ := Lx.Hd.mk (And.intro q0 (And.intro q1 (And.intro q2 q3)))
        clear p0 p1 p2 p3 q0 q1 q2 q3 hB hS 
        go_upto_region 6 with (fail)
        refine name_world fun W1 hW1 => ?_
        have hb1 : W1.heap[wr.heap.size]? = some (.cells #[.string x.f0, .bool x.f1, .bool x.f2, .int .i64 x.f3] 105 (0, 0)) := by rw [hW1]; exact World.alloc_heap_new wr _
        have hB1 : Below w.heap.size w W1 := by rw [hW1]; exact HB.out.trans (((Below.refl _ wr).alloc (Nat.le_refl _) _).mono HB.out.size)
        have hs1 : W1.heap.size = wr.heap.size + 1 := by rw [hW1]; simp
        obtain ⟨q0, q1, q2, q3⟩ := HQ.out
        have b0 := pw_cell_below hB1 q0; have b1 := pw_cell_below hB1 q1; have b2 := pw_cell_below hB1 q2; have b3 := pw_cell_below hB1 q3
        clear q0 q1 q2 q3 hW1 a0 a1 a2 a3
        have HB1 := Lx.Hd.mk hB1
        have HK1 := Lx.Hd.mk hb1
        clear hB1 hb1
        go_upto_region 7 with (fail)
        refine name_world fun W2 hW2 => ?_
        have hb2 : W2.heap[wr.heap.size + 1]? = some (.cells #[.string y.f0, .bool y.f1, .bool y.f2, .int .i64 y.f3] 105 (0, 0)) := by rw [hW2, ← hs1]; exact World.alloc_heap_new W1 _
        have hb1 : W2.heap[wr.heap.size]? = some (.cells #[.string x.f0, .bool x.f1, .bool x.f2, .int .i64 x.f3] 105 (0, 0)) := by rw [hW2]; exact (Below.heap_alloc _ _ _ (by omega)).trans HK1.out
        have HB2 : Lx.Hd (Below w.heap.size w W2) := Lx.Hd.mk (by rw [hW2]; exact HB1.out.trans (((Below.refl _ W1).alloc (Nat.le_refl _) _).mono HB1.out.size))
        have cx : ∀ j u, (#[.string x.f0, .bool x.f1, .bool x.f2, .int .i64 x.f3] : Array Value)[j]? = some u → W2.cell? ⟨wr.heap.size, j, none⟩ = some u := fun j u h => by unfold World.cell?; rw [hb1]; exact h
        have cy : ∀ j u, (#[.string y.f0, .bool y.f1, .bool y.f2, .int .i64 y.f3] : Array Value)[j]? = some u → W2.cell? ⟨wr.heap.size + 1, j, none⟩ = some u := fun j u h => by unfold World.cell?; rw [hb2]; exact h
        have x0 := cx 0 _ rfl; have x1 := cx 1 _ rfl; have x2 := cx 2 _ rfl; have x3 := cx 3 _ rfl
        have y0 := cy 0 _ rfl; have y1 := cy 1 _ rfl; have y2 := cy 2 _ rfl; have y3 := cy 3 _ rfl
        clear cx cy hb1 hb2 hW2 b0 b1 b2 b3
        have HC := Lx.Hd.mk (HSt.out W2 (RowsT.below HG1.out HB2.out) (RowsT.below HG2.out HB2.out))
        cases hsm : sameT x y
        all_goals
          go_wp2_with (go_at_call 71; refine HC.out.mono ?_; rw [hsm]; rintro e W3 ⟨rfl, hb⟩; have HB3 : Lx.Hd (Below w.heap.size w W3) := Lx.Hd.mk (HB2.out.trans (hb.mono HB2.out.size)); clear hb)
        · go_ret
          exact ⟨by rw [HS.out, hsm]; rfl, HB3.out⟩
        · exact ⟨⟨i + 1, hlt, by go_num, by rw [HS.out, hsm, Bool.true_and], HB3.out⟩, by simp [intOf]; omega⟩
      · have hil : i = l.length := by omega
        rw [hil, List.drop_length, HNE.out, List.drop_length] at hS
        have HS := Lx.Hd.mk hS
        have HB := Lx.Hd.mk hB
        clear hS hB
        go_wp2
        go_ret
        exact ⟨by rw [HS.out]; rfl, HB.out⟩
  · have hn : ¬ (l.length : Int) = (m.length : Int) := by omega
    go_enter Tryd.func70, Tryd.ntmps70
    go_wp2
    go_ret
    exact ⟨by rw [eqL_len sameT l m hne]; rfl, Below.refl _ _⟩
end Go.Proofs.YtgkhpecllhiidaaDoor.A
namespace Go.Proofs.YtgkhpecllhiidaaDoor.A
open Go.RowKit Go.Shelf Go.Proofs.YtgkhpecllhiidaaDoor.As Go.Proofs.YtgkhpecllhiidaaDoorW.PrintWords Go.Proofs.YtgkhpecllhiidaaDoorW.PrintLast Go.Proofs.YtgkhpecllhiidaaDoorW.PrintMore
def RowsD (W : World) (x : SD) (A2 A5 : Option Addr) (c2 c5 : Nat) : Prop := kQ.C W A2 x.f2.length x.f2 ∧ kS.C W A5 x.f5.length x.f5 ∧ x.f2.length ≤ c2 ∧ x.f5.length ≤ c5
theorem RowsD.below {W W' : World} {x : SD} {A2 A5 : Option Addr} {c2 c5 : Nat} (h : RowsD W x A2 A5 c2 c5) (hb : Below W.heap.size W W') : RowsD W' x A2 A5 c2 c5 := ⟨Kd.C_below h.1 hb, Kd.C_below h.2.1 hb, h.2.2.1, h.2.2.2⟩
def BkD (W : World) (b : Nat) (x : SD) (A2 A5 : Option Addr) (c2 c5 : Nat) : Prop := W.cell? ⟨b, 0, none⟩ = some (.int .i64 x.f0) ∧ W.cell? ⟨b, 1, none⟩ = some (.string x.f1) ∧ W.cell? ⟨b, 2, none⟩ = some (.slice A2 x.f2.length c2) ∧ W.cell? ⟨b, 3, none⟩ = some (.int .i64 x.f3) ∧ W.cell? ⟨b, 4, none⟩ = some (.int .i64 x.f4) ∧ W.cell? ⟨b, 5, none⟩ = some (.slice A5 x.f5.length c5) ∧ W.cell? ⟨b, 6, none⟩ = some (.int .i64 x.f6)
theorem bkD_of {W : World} {b : Nat} {x : SD} {A2 A5 : Option Addr} {c2 c5 : Nat} (h : W.heap[b]? = some (.cells #[.int .i64 x.f0, .string x.f1, .slice A2 x.f2.length c2, .int .i64 x.f3, .int .i64 x.f4, .slice A5 x.f5.length c5, .int .i64 x.f6] 49 (0, 0))) : ∀ W', Below W.heap.size W W' → BkD W' b x A2 A5 c2 c5 := fun W' hb => by
  have k := kept_cells h W' hb
  exact ⟨k 0 _ rfl, k 1 _ rfl, k 2 _ rfl, k 3 _ rfl, k 4 _ rfl, k 5 _ rfl, k 6 _ rfl⟩
set_option maxRecDepth 100000 in
set_option maxHeartbeats 8000000 in
theorem sameD_any (x y : SD) (A2 A5 : Option Addr) (c2 c5 : Nat) (B2 B5 : Option Addr) (d2 d5 : Nat) (w : World) (hA : RowsD w x A2 A5 c2 c5) (hB : RowsD w y B2 B5 d2 d5) (hl : x.f2.length ≤ c2 ∧ y.f2.length ≤ d2) :
    Calls Tryd.prog 73 #[.agg #[.int .i64 x.f0, .string x.f1, .slice A2 x.f2.length c2, .int .i64 x.f3, .int .i64 x.f4, .slice A5 x.f5.length c5, .int .i64 x.f6], .agg #[.int .i64 y.f0, .string y.f1, .slice B2 y.f2.length d2, .int .i64 y.f3, .int .i64 y.f4, .slice B5 y.f5.length d5, .int .i64 y.f6]] w fun e w' => e = .returned (.bool (sameD x y)) ∧ Below w.heap.size w w' := by
  have HC := Lx.Hd.mk (And.intro hA hB)
  clear hA hB
  have HX0 := Lx.Hd.mk hl
  clear hl
  go_enter Tryd.func73, Tryd.ntmps73
  go_upto_region 1 with (fail)
  refine name_world fun W2 hW2 => ?_
  have HB0 : Lx.Hd (Below w.heap.size w W2) := Lx.Hd.mk (by rw [hW2]; exact below_alloc (below_alloc (Below.refl _ _) _) _)
  have z1 : (w.alloc (.cells #[.int .i64 x.f0, .string x.f1, .slice A2 x.f2.length c2, .int .i64 x.f3, .int .i64 x.f4, .slice A5 x.f5.length c5, .int .i64 x.f6] 49)).heap.size = w.heap.size + 1 := by simp
  have hb1 : W2.heap[w.heap.size]? = some (.cells #[.int .i64 x.f0, .string x.f1, .slice A2 x.f2.length c2, .int .i64 x.f3, .int .i64 x.f4, .slice A5 x.f5.length c5, .int .i64 x.f6] 49 (0, 0)) := by rw [hW2]; exact blk_alloc (World.alloc_heap_new w _) _
  have hb2 : W2.heap[w.heap.size + 1]? = some (.cells #[.int .i64 y.f0, .string y.f1, .slice B2 y.f2.length d2, .int .i64 y.f3, .int .i64 y.f4, .slice B5 y.f5.length d5, .int .i64 y.f6] 49 (0, 0)) := by rw [hW2, ← z1]; exact World.alloc_heap_new _ _
  have BC1 := Lx.Hd.mk (bkD_of hb1)
  have BC2 := Lx.Hd.mk (bkD_of hb2)
  have HC2 : Lx.Hd (RowsD W2 x A2 A5 c2 c5 ∧ RowsD W2 y B2 B5 d2 d5) := Lx.Hd.mk ⟨RowsD.below HC.out.1 HB0.out, RowsD.below HC.out.2 HB0.out⟩
  have HB : Lx.Hd (Below W2.heap.size W2 W2) := Lx.Hd.mk (Below.refl _ _)
  clear hW2 z1 hb1 hb2 HC
  generalize w.heap.size = bx at BC1 BC2 ⊢
  obtain ⟨p0, p1, p2, p3, p4, p5, p6⟩ := BC1.out _ HB.out
  obtain ⟨q0, q1, q2, q3, q4, q5, q6⟩ := BC2.out _ HB.out
  cases hs0 : x.f0 == y.f0
  · go_wp2_with (first | fail)
    go_ret
    exact ⟨by rw [sameD_eq, hs0]; rfl, bto HB0 HB⟩
  cases hs1 : x.f1.toList == y.f1.toList
  · go_wp2_with (first | fail)
    go_ret
    exact ⟨by rw [sameD_eq, hs0, hs1]; rfl, bto HB0 HB⟩
  cases hs2 : eqQ x.f2 y.f2
  · go_wp2_with (first | (go_at_call 74; (with_reducible refine (equalQ_calls x.f2 y.f2 A2 B2 c2 d2 _ ?s1 HX0.out.1 ?s2 HX0.out.2).mono ?_); (case s1 => exact (RowsD.below HC2.out.1 HB.out).1); (case s2 => exact (RowsD.below HC2.out.2 HB.out).1); rw [hs2]; rintro r W3 ⟨rfl, hb⟩; replace HB := bst HB hb; clear hb; clear p0 q0 p1 q1 p2 q2 p3 q3 p4 q4 p5 q5 p6 q6; obtain ⟨p0, p1, p2, p3, p4, p5, p6⟩ := BC1.out _ HB.out; obtain ⟨q0, q1, q2, q3, q4, q5, q6⟩ := BC2.out _ HB.out) | fail)
    go_ret
    exact ⟨by rw [sameD_eq, hs0, hs1, hs2]; rfl, bto HB0 HB⟩
  cases hs3 : x.f3 == y.f3
  · go_wp2_with (first | (go_at_call 74; (with_reducible refine (equalQ_calls x.f2 y.f2 A2 B2 c2 d2 _ ?s1 HX0.out.1 ?s2 HX0.out.2).mono ?_); (case s1 => exact (RowsD.below HC2.out.1 HB.out).1); (case s2 => exact (RowsD.below HC2.out.2 HB.out).1); rw [hs2]; rintro r W3 ⟨rfl, hb⟩; replace HB := bst HB hb; clear hb; clear p0 q0 p1 q1 p2 q2 p3 q3 p4 q4 p5 q5 p6 q6; obtain ⟨p0, p1, p2, p3, p4, p5, p6⟩ := BC1.out _ HB.out; obtain ⟨q0, q1, q2, q3, q4, q5, q6⟩ := BC2.out _ HB.out) | fail)
    go_ret
    exact ⟨by rw [sameD_eq, hs0, hs1, hs2, hs3]; rfl, bto HB0 HB⟩
  cases hs4 : x.f4 == y.f4
  · go_wp2_with (first | (go_at_call 74; (with_reducible refine (equalQ_calls x.f2 y.f2 A2 B2 c2 d2 _ ?s1 HX0.out.1 ?s2 HX0.out.2).mono ?_); (case s1 => exact (RowsD.below HC2.out.1 HB.out).1); (case s2 => exact (RowsD.below HC2.out.2 HB.out).1); rw [hs2]; rintro r W3 ⟨rfl, hb⟩; replace HB := bst HB hb; clear hb; clear p0 q0 p1 q1 p2 q2 p3 q3 p4 q4 p5 q5 p6 q6; obtain ⟨p0, p1, p2, p3, p4, p5, p6⟩ := BC1.out _ HB.out; obtain ⟨q0, q1, q2, q3, q4, q5, q6⟩ := BC2.out _ HB.out) | fail)
    go_ret
    exact ⟨by rw [sameD_eq, hs0, hs1, hs2, hs3, hs4]; rfl, bto HB0 HB⟩
  cases hs5 : eqL sameS x.f5 y.f5
  · go_wp2_with (first | (go_at_call 74; (with_reducible refine (equalQ_calls x.f2 y.f2 A2 B2 c2 d2 _ ?s1 HX0.out.1 ?s2 HX0.out.2).mono ?_); (case s1 => exact (RowsD.below HC2.out.1 HB.out).1); (case s2 => exact (RowsD.below HC2.out.2 HB.out).1); rw [hs2]; rintro r W3 ⟨rfl, hb⟩; replace HB := bst HB hb; clear hb; clear p0 q0 p1 q1 p2 q2 p3 q3 p4 q4 p5 q5 p6 q6; obtain ⟨p0, p1, p2, p3, p4, p5, p6⟩ := BC1.out _ HB.out; obtain ⟨q0, q1, q2, q3, q4, q5, q6⟩ := BC2.out _ HB.out) | (go_at_call 75; (with_reducible refine (equal_st A5 B5 c5 d5 x.f5 y.f5 _ ?s1 ?s2 (fun a _ b => sameAtS_any (deepS a) a (Nat.le_refl _) b)).mono ?_); (case s1 => exact (RowsD.below HC2.out.1 HB.out).2.1); (case s2 => exact (RowsD.below HC2.out.2 HB.out).2.1); rw [hs5]; rintro r W3 ⟨rfl, hb⟩; replace HB := bst HB hb; clear hb; clear p0 q0 p1 q1 p2 q2 p3 q3 p4 q4 p5 q5 p6 q6; obtain ⟨p0, p1, p2, p3, p4, p5, p6⟩ := BC1.out _ HB.out; obtain ⟨q0, q1, q2, q3, q4, q5, q6⟩ := BC2.out _ HB.out) | fail)
    go_ret
    exact ⟨by rw [sameD_eq, hs0, hs1, hs2, hs3, hs4, hs5]; rfl, bto HB0 HB⟩
  go_wp2_with (first | (go_at_call 74; (with_reducible refine (equalQ_calls x.f2 y.f2 A2 B2 c2 d2 _ ?s1 HX0.out.1 ?s2 HX0.out.2).mono ?_); (case s1 => exact (RowsD.below HC2.out.1 HB.out).1); (case s2 => exact (RowsD.below HC2.out.2 HB.out).1); rw [hs2]; rintro r W3 ⟨rfl, hb⟩; replace HB := bst HB hb; clear hb; clear p0 q0 p1 q1 p2 q2 p3 q3 p4 q4 p5 q5 p6 q6; obtain ⟨p0, p1, p2, p3, p4, p5, p6⟩ := BC1.out _ HB.out; obtain ⟨q0, q1, q2, q3, q4, q5, q6⟩ := BC2.out _ HB.out) | (go_at_call 75; (with_reducible refine (equal_st A5 B5 c5 d5 x.f5 y.f5 _ ?s1 ?s2 (fun a _ b => sameAtS_any (deepS a) a (Nat.le_refl _) b)).mono ?_); (case s1 => exact (RowsD.below HC2.out.1 HB.out).2.1); (case s2 => exact (RowsD.below HC2.out.2 HB.out).2.1); rw [hs5]; rintro r W3 ⟨rfl, hb⟩; replace HB := bst HB hb; clear hb; clear p0 q0 p1 q1 p2 q2 p3 q3 p4 q4 p5 q5 p6 q6; obtain ⟨p0, p1, p2, p3, p4, p5, p6⟩ := BC1.out _ HB.out; obtain ⟨q0, q1, q2, q3, q4, q5, q6⟩ := BC2.out _ HB.out) | fail)
  go_ret
  exact ⟨by rw [sameD_eq, hs0, hs1, hs2, hs3, hs4, hs5]; rfl, bto HB0 HB⟩
def SameAtD (x y : SD) : Prop := ∀ (A2 A5 : Option Addr) (c2 c5 : Nat) (B2 B5 : Option Addr) (d2 d5 : Nat) (W : World), RowsD W x A2 A5 c2 c5 → RowsD W y B2 B5 d2 d5 →
  Calls Tryd.prog 73 #[.agg #[.int .i64 x.f0, .string x.f1, .slice A2 x.f2.length c2, .int .i64 x.f3, .int .i64 x.f4, .slice A5 x.f5.length c5, .int .i64 x.f6], .agg #[.int .i64 y.f0, .string y.f1, .slice B2 y.f2.length d2, .int .i64 y.f3, .int .i64 y.f4, .slice B5 y.f5.length d5, .int .i64 y.f6]] W fun e W' => e = .returned (.bool (sameD x y)) ∧ Below W.heap.size W W'
theorem sameAtD_any (x y : SD) : SameAtD x y := fun A2 A5 c2 c5 B2 B5 d2 d5 W hA hB => sameD_any x y A2 A5 c2 c5 B2 B5 d2 d5 W hA hB ⟨hA.2.2.1, hB.2.2.1⟩
set_option maxRecDepth 100000 in
set_option maxHeartbeats 4000000 in
theorem equal_de (A1 A2 : Option Addr) (c1 c2 : Nat) (l m : List SD) (w : World) (h1 : kD.C w A1 l.length l) (h2 : kD.C w A2 m.length m) (hf : ∀ x ∈ l, ∀ y, SameAtD x y) :
    Calls Tryd.prog 72 #[.slice A1 l.length c1, .slice A2 m.length c2, .func (.func 73) #[] #[]] w fun e w' => e = .returned (.bool (eqL sameD l m)) ∧ Below w.heap.size w w' := by
  have l1 : l.length ≤ 9223372036854775807 := h1.2.1
  have l2 : m.length ≤ 9223372036854775807 := h2.2.1
  have H1 := Lx.Hd.mk h1
  have H2 := Lx.Hd.mk h2
  have HF := Lx.Hd.mk hf
  clear h1 h2 hf
  by_cases hne : l.length = m.length
  · go_enter Tryd.func72, Tryd.ntmps72
    go_wp2
    go_loopw [17] (fun t17 wr => ∃ i : Nat, i ≤ l.length ∧ t17 = .int .i64 i ∧ eqL sameD l m = eqL sameD (l.drop i) (m.drop i) ∧ Below w.heap.size w wr) (fun t17 _ => l.length - (intOf t17).toNat)
    case atStart => exact ⟨0, Nat.zero_le _, rfl, rfl, Below.refl _ _⟩
    case round =>
      have HNE := Lx.Hd.mk hne
      obtain ⟨i, hi, rfl, hS, hB⟩ := hrel
      by_cases hlt : i < l.length
      · clear hne
        have hlm : i < m.length := by have := HNE.out; omega
        obtain ⟨ad1, A2, c2, A5, c5, rfl, p0, p1, p2, p3, p4, p5, p6, k2, g2, k5, g5⟩ := at_T49 H1.out i (by omega) (by omega)
        obtain ⟨ad2, B2, d2, B5, d5, rfl, q0, q1, q2, q3, q4, q5, q6, m2, n2, m5, n5⟩ := at_T49 H2.out i (by omega) (by omega)
        have ex : rd_T49 l i = l[i] := by unfold rd_T49; rw [Int.toNat_natCast, List.getD_eq_getElem?_getD, List.getElem?_eq_getElem hlt]; rfl
        have ey : rd_T49 m i = m[i] := by unfold rd_T49; rw [Int.toNat_natCast, List.getD_eq_getElem?_getD, List.getElem?_eq_getElem hlm]; rfl
        rw [ex] at p0 p1 p2 p3 p4 p5 p6 k2 g2 k5 g5
        rw [ey] at q0 q1 q2 q3 q4 q5 q6 m2 n2 m5 n5
        rw [Int.toNat_natCast] at p0 p1 p2 p3 p4 p5 p6 q0 q1 q2 q3 q4 q5 q6
        rw [List.drop_eq_getElem_cons hlt, List.drop_eq_getElem_cons hlm, eqL] at hS
        have HSt := Lx.Hd.mk (HF.out l[i] (List.getElem_mem hlt) m[i])
        generalize l[i] = x at *
        generalize m[i] = y at *
        clear ex ey
        have a0 := pw_cell_below hB p0; have a1 := pw_cell_below hB p1; have a2 := pw_cell_below hB p2; have a3 := pw_cell_below hB p3; have a4 := pw_cell_below hB p4; have a5 := pw_cell_below hB p5; have a6 := pw_cell_below hB p6
        have HB := Lx.Hd.mk hB
        have HS := Lx.Hd.mk hS
        have HG1 : Lx.Hd (RowsD w x A2 A5 c2 c5) := Lx.Hd.mk ⟨g2, g5, k2, k5⟩
        have HG2 : Lx.Hd (RowsD w y B2 B5 d2 d5) := Lx.Hd.mk ⟨n2, n5, m2, m5⟩
        have HQ := Lx.Hd.mk (And.intro q0 (And.intro q1 (And.intro q2 (And.intro q3 (And.intro q4 (And.intro q5 q6))))))
        clear p0 p1 p2 p3 p4 p5 p6 q0 q1 q2 q3 q4 q5 q6 hB hS g2 k2 n2 m2 g5 k5 n5 m5
        go_upto_region 6 with (fail)
        refine name_world fun W1 hW1 => ?_
        have hb1 : W1.heap[wr.heap.size]? = some (.cells #[.int .i64 x.f0, .string x.f1, .slice A2 x.f2.length c2, .int .i64 x.f3, .int .i64 x.f4, .slice A5 x.f5.length c5, .int .i64 x.f6] 49 (0, 0)) := by rw [hW1]; exact World.alloc_heap_new wr _
        have hB1 : Below w.heap.size w W1 := by rw [hW1]; exact HB.out.trans (((Below.refl _ wr).alloc (Nat.le_refl _) _).mono HB.out.size)
        have hs1 : W1.heap.size = wr.heap.size + 1 := by rw [hW1]; simp
        obtain ⟨q0, q1, q2, q3, q4, q5, q6⟩ := HQ.out
        have b0 := pw_cell_below hB1 q0; have b1 := pw_cell_below hB1 q1; have b2 := pw_cell_below hB1 q2; have b3 := pw_cell_below hB1 q3; have b4 := pw_cell_below hB1 q4; have b5 := pw_cell_below hB1 q5; have b6 := pw_cell_below hB1 q6
        clear q0 q1 q2 q3 q4 q5 q6 hW1 a0 a1 a2 a3 a4 a5 a6
        have HB1 := Lx.Hd.mk hB1
        have HK1 := Lx.Hd.mk hb1
        clear hB1 hb1
        go_upto_region 7 with (fail)
        refine name_world fun W2 hW2 => ?_
        have hb2 : W2.heap[wr.heap.size + 1]? = some (.cells #[.int .i64 y.f0, .string y.f1, .slice B2 y.f2.length d2, .int .i64 y.f3, .int .i64 y.f4, .slice B5 y.f5.length d5, .int .i64 y.f6] 49 (0, 0)) := by rw [hW2, ← hs1]; exact World.alloc_heap_new W1 _
        have hb1 : W2.heap[wr.heap.size]? = some (.cells #[.int .i64 x.f0, .string x.f1, .slice A2 x.f2.length c2, .int .i64 x.f3, .int .i64 x.f4, .slice A5 x.f5.length c5, .int .i64 x.f6] 49 (0, 0)) := by rw [hW2]; exact (Below.heap_alloc _ _ _ (by omega)).trans HK1.out
        have HB2 : Lx.Hd (Below w.heap.size w W2) := Lx.Hd.mk (by rw [hW2]; exact HB1.out.trans (((Below.refl _ W1).alloc (Nat.le_refl _) _).mono HB1.out.size))
        have cx : ∀ j u, (#[.int .i64 x.f0, .string x.f1, .slice A2 x.f2.length c2, .int .i64 x.f3, .int .i64 x.f4, .slice A5 x.f5.length c5, .int .i64 x.f6] : Array Value)[j]? = some u → W2.cell? ⟨wr.heap.size, j, none⟩ = some u := fun j u h => by unfold World.cell?; rw [hb1]; exact h
        have cy : ∀ j u, (#[.int .i64 y.f0, .string y.f1, .slice B2 y.f2.length d2, .int .i64 y.f3, .int .i64 y.f4, .slice B5 y.f5.length d5, .int .i64 y.f6] : Array Value)[j]? = some u → W2.cell? ⟨wr.heap.size + 1, j, none⟩ = some u := fun j u h => by unfold World.cell?; rw [hb2]; exact h
        have x0 := cx 0 _ rfl; have x1 := cx 1 _ rfl; have x2 := cx 2 _ rfl; have x3 := cx 3 _ rfl; have x4 := cx 4 _ rfl; have x5 := cx 5 _ rfl; have x6 := cx 6 _ rfl
        have y0 := cy 0 _ rfl; have y1 := cy 1 _ rfl; have y2 := cy 2 _ rfl; have y3 := cy 3 _ rfl; have y4 := cy 4 _ rfl; have y5 := cy 5 _ rfl; have y6 := cy 6 _ rfl
        clear cx cy hb1 hb2 hW2 b0 b1 b2 b3 b4 b5 b6
        have HC := Lx.Hd.mk (HSt.out A2 A5 c2 c5 B2 B5 d2 d5 W2 (RowsD.below HG1.out HB2.out) (RowsD.below HG2.out HB2.out))
        cases hsm : sameD x y
        all_goals
          go_wp2_with (go_at_call 73; refine HC.out.mono ?_; rw [hsm]; rintro e W3 ⟨rfl, hb⟩; have HB3 : Lx.Hd (Below w.heap.size w W3) := Lx.Hd.mk (HB2.out.trans (hb.mono HB2.out.size)); clear hb)
        · go_ret
          exact ⟨by rw [HS.out, hsm]; rfl, HB3.out⟩
        · exact ⟨⟨i + 1, hlt, by go_num, by rw [HS.out, hsm, Bool.true_and], HB3.out⟩, by simp [intOf]; omega⟩
      · have hil : i = l.length := by omega
        rw [hil, List.drop_length, HNE.out, List.drop_length] at hS
        have HS := Lx.Hd.mk hS
        have HB := Lx.Hd.mk hB
        clear hS hB
        go_wp2
        go_ret
        exact ⟨by rw [HS.out]; rfl, HB.out⟩
  · have hn : ¬ (l.length : Int) = (m.length : Int) := by omega
    go_enter Tryd.func72, Tryd.ntmps72
    go_wp2
    go_ret
    exact ⟨by rw [eqL_len sameD l m hne]; rfl, Below.refl _ _⟩
def RowsP (W : World) (x : SP) (A1 A2 A3 : Option Addr) (c1 c2 c3 : Nat) : Prop := kG.C W A1 x.f1.length x.f1 ∧ kT.C W A2 x.f2.length x.f2 ∧ kD.C W A3 x.f3.length x.f3 ∧ x.f1.length ≤ c1 ∧ x.f2.length ≤ c2 ∧ x.f3.length ≤ c3
theorem RowsP.below {W W' : World} {x : SP} {A1 A2 A3 : Option Addr} {c1 c2 c3 : Nat} (h : RowsP W x A1 A2 A3 c1 c2 c3) (hb : Below W.heap.size W W') : RowsP W' x A1 A2 A3 c1 c2 c3 := ⟨Kd.C_below h.1 hb, Kd.C_below h.2.1 hb, Kd.C_below h.2.2.1 hb, h.2.2.2.1, h.2.2.2.2.1, h.2.2.2.2.2⟩
def BkP (W : World) (b : Nat) (x : SP) (A1 A2 A3 : Option Addr) (c1 c2 c3 : Nat) : Prop := W.cell? ⟨b, 0, none⟩ = some (.int .i64 x.f0) ∧ W.cell? ⟨b, 1, none⟩ = some (.slice A1 x.f1.length c1) ∧ W.cell? ⟨b, 2, none⟩ = some (.slice A2 x.f2.length c2) ∧ W.cell? ⟨b, 3, none⟩ = some (.slice A3 x.f3.length c3)
theorem bkP_of {W : World} {b : Nat} {x : SP} {A1 A2 A3 : Option Addr} {c1 c2 c3 : Nat} (h : W.heap[b]? = some (.cells #[.int .i64 x.f0, .slice A1 x.f1.length c1, .slice A2 x.f2.length c2, .slice A3 x.f3.length c3] 46 (0, 0))) : ∀ W', Below W.heap.size W W' → BkP W' b x A1 A2 A3 c1 c2 c3 := fun W' hb => by
  have k := kept_cells h W' hb
  exact ⟨k 0 _ rfl, k 1 _ rfl, k 2 _ rfl, k 3 _ rfl⟩
set_option maxRecDepth 100000 in
set_option maxHeartbeats 8000000 in
theorem sameP_any (x y : SP) (A1 A2 A3 : Option Addr) (c1 c2 c3 : Nat) (B1 B2 B3 : Option Addr) (d1 d2 d3 : Nat) (w : World) (hA : RowsP w x A1 A2 A3 c1 c2 c3) (hB : RowsP w y B1 B2 B3 d1 d2 d3) :
    Calls Tryd.prog 33 #[.agg #[.int .i64 x.f0, .slice A1 x.f1.length c1, .slice A2 x.f2.length c2, .slice A3 x.f3.length c3], .agg #[.int .i64 y.f0, .slice B1 y.f1.length d1, .slice B2 y.f2.length d2, .slice B3 y.f3.length d3]] w fun e w' => e = .returned (.bool (sameP x y)) ∧ Below w.heap.size w w' := by
  have HC := Lx.Hd.mk (And.intro hA hB)
  clear hA hB
  go_enter Tryd.func33, Tryd.ntmps33
  go_upto_region 1 with (fail)
  refine name_world fun W2 hW2 => ?_
  have HB0 : Lx.Hd (Below w.heap.size w W2) := Lx.Hd.mk (by rw [hW2]; exact below_alloc (below_alloc (Below.refl _ _) _) _)
  have z1 : (w.alloc (.cells #[.int .i64 x.f0, .slice A1 x.f1.length c1, .slice A2 x.f2.length c2, .slice A3 x.f3.length c3] 46)).heap.size = w.heap.size + 1 := by simp
  have hb1 : W2.heap[w.heap.size]? = some (.cells #[.int .i64 x.f0, .slice A1 x.f1.length c1, .slice A2 x.f2.length c2, .slice A3 x.f3.length c3] 46 (0, 0)) := by rw [hW2]; exact blk_alloc (World.alloc_heap_new w _) _
  have hb2 : W2.heap[w.heap.size + 1]? = some (.cells #[.int .i64 y.f0, .slice B1 y.f1.length d1, .slice B2 y.f2.length d2, .slice B3 y.f3.length d3] 46 (0, 0)) := by rw [hW2, ← z1]; exact World.alloc_heap_new _ _
  have BC1 := Lx.Hd.mk (bkP_of hb1)
  have BC2 := Lx.Hd.mk (bkP_of hb2)
  have HC2 : Lx.Hd (RowsP W2 x A1 A2 A3 c1 c2 c3 ∧ RowsP W2 y B1 B2 B3 d1 d2 d3) := Lx.Hd.mk ⟨RowsP.below HC.out.1 HB0.out, RowsP.below HC.out.2 HB0.out⟩
  have HB : Lx.Hd (Below W2.heap.size W2 W2) := Lx.Hd.mk (Below.refl _ _)
  clear hW2 z1 hb1 hb2 HC
  generalize w.heap.size = bx at BC1 BC2 ⊢
  obtain ⟨p0, p1, p2, p3⟩ := BC1.out _ HB.out
  obtain ⟨q0, q1, q2, q3⟩ := BC2.out _ HB.out
  cases hs0 : x.f0 == y.f0
  · go_wp2_with (first | fail)
    go_ret
    exact ⟨by rw [sameP_eq, hs0]; rfl, bto HB0 HB⟩
  cases hs1 : eqL sameG x.f1 y.f1
  · go_wp2_with (first | (go_at_call 67; (with_reducible refine (equal_gl A1 B1 c1 d1 x.f1 y.f1 _ ?s1 ?s2 (fun a _ b => sameAtG_any a b)).mono ?_); (case s1 => exact (RowsP.below HC2.out.1 HB.out).1); (case s2 => exact (RowsP.below HC2.out.2 HB.out).1); rw [hs1]; rintro r W3 ⟨rfl, hb⟩; replace HB := bst HB hb; clear hb; clear p0 q0 p1 q1 p2 q2 p3 q3; obtain ⟨p0, p1, p2, p3⟩ := BC1.out _ HB.out; obtain ⟨q0, q1, q2, q3⟩ := BC2.out _ HB.out) | fail)
    go_ret
    exact ⟨by rw [sameP_eq, hs0, hs1]; rfl, bto HB0 HB⟩
  cases hs2 : eqL sameT x.f2 y.f2
  · go_wp2_with (first | (go_at_call 67; (with_reducible refine (equal_gl A1 B1 c1 d1 x.f1 y.f1 _ ?s1 ?s2 (fun a _ b => sameAtG_any a b)).mono ?_); (case s1 => exact (RowsP.below HC2.out.1 HB.out).1); (case s2 => exact (RowsP.below HC2.out.2 HB.out).1); rw [hs1]; rintro r W3 ⟨rfl, hb⟩; replace HB := bst HB hb; clear hb; clear p0 q0 p1 q1 p2 q2 p3 q3; obtain ⟨p0, p1, p2, p3⟩ := BC1.out _ HB.out; obtain ⟨q0, q1, q2, q3⟩ := BC2.out _ HB.out) | (go_at_call 70; (with_reducible refine (equal_gt A2 B2 c2 d2 x.f2 y.f2 _ ?s1 ?s2 (fun a _ b => sameAtT_any a b)).mono ?_); (case s1 => exact (RowsP.below HC2.out.1 HB.out).2.1); (case s2 => exact (RowsP.below HC2.out.2 HB.out).2.1); rw [hs2]; rintro r W3 ⟨rfl, hb⟩; replace HB := bst HB hb; clear hb; clear p0 q0 p1 q1 p2 q2 p3 q3; obtain ⟨p0, p1, p2, p3⟩ := BC1.out _ HB.out; obtain ⟨q0, q1, q2, q3⟩ := BC2.out _ HB.out) | fail)
    go_ret
    exact ⟨by rw [sameP_eq, hs0, hs1, hs2]; rfl, bto HB0 HB⟩
  cases hs3 : eqL sameD x.f3 y.f3
  · go_wp2_with (first | (go_at_call 67; (with_reducible refine (equal_gl A1 B1 c1 d1 x.f1 y.f1 _ ?s1 ?s2 (fun a _ b => sameAtG_any a b)).mono ?_); (case s1 => exact (RowsP.below HC2.out.1 HB.out).1); (case s2 => exact (RowsP.below HC2.out.2 HB.out).1); rw [hs1]; rintro r W3 ⟨rfl, hb⟩; replace HB := bst HB hb; clear hb; clear p0 q0 p1 q1 p2 q2 p3 q3; obtain ⟨p0, p1, p2, p3⟩ := BC1.out _ HB.out; obtain ⟨q0, q1, q2, q3⟩ := BC2.out _ HB.out) | (go_at_call 70; (with_reducible refine (equal_gt A2 B2 c2 d2 x.f2 y.f2 _ ?s1 ?s2 (fun a _ b => sameAtT_any a b)).mono ?_); (case s1 => exact (RowsP.below HC2.out.1 HB.out).2.1); (case s2 => exact (RowsP.below HC2.out.2 HB.out).2.1); rw [hs2]; rintro r W3 ⟨rfl, hb⟩; replace HB := bst HB hb; clear hb; clear p0 q0 p1 q1 p2 q2 p3 q3; obtain ⟨p0, p1, p2, p3⟩ := BC1.out _ HB.out; obtain ⟨q0, q1, q2, q3⟩ := BC2.out _ HB.out) | (go_at_call 72; (with_reducible refine (equal_de A3 B3 c3 d3 x.f3 y.f3 _ ?s1 ?s2 (fun a _ b => sameAtD_any a b)).mono ?_); (case s1 => exact (RowsP.below HC2.out.1 HB.out).2.2.1); (case s2 => exact (RowsP.below HC2.out.2 HB.out).2.2.1); rw [hs3]; rintro r W3 ⟨rfl, hb⟩; replace HB := bst HB hb; clear hb; clear p0 q0 p1 q1 p2 q2 p3 q3; obtain ⟨p0, p1, p2, p3⟩ := BC1.out _ HB.out; obtain ⟨q0, q1, q2, q3⟩ := BC2.out _ HB.out) | fail)
    go_ret
    exact ⟨by rw [sameP_eq, hs0, hs1, hs2, hs3]; rfl, bto HB0 HB⟩
  go_wp2_with (first | (go_at_call 67; (with_reducible refine (equal_gl A1 B1 c1 d1 x.f1 y.f1 _ ?s1 ?s2 (fun a _ b => sameAtG_any a b)).mono ?_); (case s1 => exact (RowsP.below HC2.out.1 HB.out).1); (case s2 => exact (RowsP.below HC2.out.2 HB.out).1); rw [hs1]; rintro r W3 ⟨rfl, hb⟩; replace HB := bst HB hb; clear hb; clear p0 q0 p1 q1 p2 q2 p3 q3; obtain ⟨p0, p1, p2, p3⟩ := BC1.out _ HB.out; obtain ⟨q0, q1, q2, q3⟩ := BC2.out _ HB.out) | (go_at_call 70; (with_reducible refine (equal_gt A2 B2 c2 d2 x.f2 y.f2 _ ?s1 ?s2 (fun a _ b => sameAtT_any a b)).mono ?_); (case s1 => exact (RowsP.below HC2.out.1 HB.out).2.1); (case s2 => exact (RowsP.below HC2.out.2 HB.out).2.1); rw [hs2]; rintro r W3 ⟨rfl, hb⟩; replace HB := bst HB hb; clear hb; clear p0 q0 p1 q1 p2 q2 p3 q3; obtain ⟨p0, p1, p2, p3⟩ := BC1.out _ HB.out; obtain ⟨q0, q1, q2, q3⟩ := BC2.out _ HB.out) | (go_at_call 72; (with_reducible refine (equal_de A3 B3 c3 d3 x.f3 y.f3 _ ?s1 ?s2 (fun a _ b => sameAtD_any a b)).mono ?_); (case s1 => exact (RowsP.below HC2.out.1 HB.out).2.2.1); (case s2 => exact (RowsP.below HC2.out.2 HB.out).2.2.1); rw [hs3]; rintro r W3 ⟨rfl, hb⟩; replace HB := bst HB hb; clear hb; clear p0 q0 p1 q1 p2 q2 p3 q3; obtain ⟨p0, p1, p2, p3⟩ := BC1.out _ HB.out; obtain ⟨q0, q1, q2, q3⟩ := BC2.out _ HB.out) | fail)
  go_ret
  exact ⟨by rw [sameP_eq, hs0, hs1, hs2, hs3]; rfl, bto HB0 HB⟩
end Go.Proofs.YtgkhpecllhiidaaDoor.A
