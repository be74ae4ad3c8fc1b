/- Package ast: may a declaration be: decl. -/
import Derived.Test.YtgkhpecllhiidaaDoorZBb
import Derived.Test.YtgkhpecllhiidaaDoorZCa
import Derived.Test.YtgkhpecllhiidaaDoorZAk
import Derived.Test.YtgkhpecllhiidaaDoorZCx1
import Derived.Test.YtgkhpecllhiidaaDoorZAo
set_option linter.unusedVariables false
set_option linter.unusedSimpArgs false
namespace Go.Proofs.YtgkhpecllhiidaaDoor.A
open Go.RowKit Go.Shelf Go.Proofs.YtgkhpecllhiidaaDoor.As Go.Proofs.YtgkhpecllhiidaaDoorW.PrintWords Go.Proofs.YtgkhpecllhiidaaDoorW.PrintLast Go.Proofs.YtgkhpecllhiidaaDoorW.PrintMore
def badQ (q : SQ) : Bool := !nameB q.f0 || (widthI q.f1 == 0)
theorem badq_any (q : SQ) (w : World) (hs : q.f0.size ≤ 140737488351232) (hG : Keys w) : Calls Tryd.prog 112 #[.agg #[.string q.f0, .int .i64 q.f1]] w fun e w' => e = .returned (.bool (badQ q)) ∧ Below w.heap.size w w' := by
  have HG := Lx.Hd.mk hG
  clear hG
  go_enter Tryd.func112, Tryd.ntmps112
  go_upto_region 1 with (fail)
  refine name_world fun W2 hW2 => ?_
  have HB0 : Lx.Hd (Below w.heap.size w W2) := Lx.Hd.mk (by rw [hW2]; exact below_alloc (Below.refl _ _) _)
  have hb1 : W2.heap[w.heap.size]? = some (.cells #[.string q.f0, .int .i64 q.f1] 110 (0, 0)) := by rw [hW2]; exact World.alloc_heap_new w _
  have BC1 := Lx.Hd.mk (kept_cells hb1)
  have HB : Lx.Hd (Below W2.heap.size W2 W2) := Lx.Hd.mk (Below.refl _ _)
  have HG2 := Lx.Hd.mk (Keys.below HG.out HB0.out)
  clear hW2 hb1 HG
  generalize w.heap.size = bx at BC1 ⊢
  have p0 := BC1.out _ HB.out 0 _ rfl
  have p1 := BC1.out _ HB.out 1 _ rfl
  cases hn : nameB q.f0
  · go_wp2_with (go_at_call 77; (with_reducible refine (name_any q.f0 _ hs ?s1).mono ?_); (case s1 => exact Keys.below HG2.out HB.out); rw [hn]; rintro r W3 ⟨rfl, hb⟩; have HB1 := Lx.Hd.mk hb; clear hb p0 p1)
    go_ret
    exact ⟨by unfold badQ; rw [hn]; rfl, HB0.out.trans (HB1.out.mono HB0.out.size)⟩
  · cases hw : (widthI q.f1 == 0)
    all_goals
      go_wp2_with (first | (go_at_call 77; (with_reducible refine (name_any q.f0 _ hs ?s1).mono ?_); (case s1 => exact Keys.below HG2.out HB.out); rw [hn]; rintro r W3 ⟨rfl, hb⟩; have HB1 := Lx.Hd.mk hb; clear hb p0 p1; have p0 := BC1.out _ HB1.out 0 _ rfl; have p1 := BC1.out _ HB1.out 1 _ rfl) | (go_at_call 38; (with_reducible refine (width_any _ _).mono ?_); rintro r W4 ⟨rfl, rfl⟩) | fail)
      go_ret
      exact ⟨by unfold badQ; rw [hn, hw]; rfl, HB0.out.trans (HB1.out.mono HB0.out.size)⟩
def SeenQ (l : List SQ) (i : Nat) : Prop := ∀ j, j < i → ∀ x, l[j]? = some x → badQ x = false
def IdxQ (l : List SQ) (B : Nat) (w : World) (e : Ending) (w' : World) : Prop := ∃ r : Int, e = .returned (.int .i64 r) ∧ Below B w w' ∧ ((r = -1 ∧ l.any badQ = false) ∨ (0 ≤ r ∧ l.any badQ = true))
set_option maxRecDepth 100000 in
theorem index_q (A : Option Addr) (c : Nat) (l : List SQ) (w : World) (hC : kQ.C w A l.length l) (hs : ∀ x ∈ l, x.f0.size ≤ 140737488351232) (hG : Keys w) :
    Calls Tryd.prog 136 #[.slice A l.length c, .func (.func 112) #[] #[]] w (IdxQ l w.heap.size w) := by
  have hlen := hC.2.1
  have H1 := Lx.Hd.mk hC
  clear hC
  go_enter Tryd.func136, Tryd.ntmps136
  go_wp2
  go_loopw [8] (fun t8 wr => ∃ i : Nat, i ≤ l.length ∧ t8 = .int .i64 i ∧ SeenQ l i ∧ Below w.heap.size w wr) (fun t8 _ => l.length - (intOf t8).toNat)
  case atStart => exact ⟨0, Nat.zero_le _, rfl, fun j h => absurd h (Nat.not_lt_zero j), Below.refl _ _⟩
  case round =>
    obtain ⟨i, hi, rfl, hSn, hB⟩ := hrel
    by_cases hlt : i < l.length
    · obtain ⟨ad, rfl, p0, p1⟩ := at_T110 H1.out i (by omega) (by omega)
      have ex : rd_T110 l i = l[i] := by unfold rd_T110; rw [Int.toNat_natCast, List.getD_eq_getElem?_getD, List.getElem?_eq_getElem hlt]; rfl
      rw [ex] at p0 p1
      rw [Int.toNat_natCast] at p0 p1
      have a0 := pw_cell_below hB p0
      have a1 := pw_cell_below hB p1
      have HB := Lx.Hd.mk hB
      have HS := Lx.Hd.mk hSn
      have HN := Lx.Hd.mk (badq_any l[i] wr (hs _ (List.getElem_mem hlt)) (Keys.below hG HB.out))
      clear hB hSn ex p0 p1
      cases hn : badQ l[i]
      all_goals
        go_wp2_with (go_at_call 112; refine HN.out.mono ?_; rw [hn]; rintro e w1 ⟨rfl, hb⟩; have HB1 := Lx.Hd.mk hb; clear hb)
      · refine ⟨⟨i + 1, by omega, by go_num, ?_, HB.out.trans (HB1.out.mono HB.out.size)⟩, by simp [intOf]; omega⟩
        intro j hj x hx
        rcases (by omega : j < i ∨ j = i) with h | rfl
        · exact HS.out j h x hx
        · rw [List.getElem?_eq_getElem hlt] at hx
          obtain rfl := Option.some.inj hx
          exact hn
      · go_ret
        refine ⟨(i : Int), rfl, HB.out.trans (HB1.out.mono HB.out.size), .inr ⟨Int.natCast_nonneg i, ?_⟩⟩
        rw [List.any_eq_true]
        exact ⟨l[i], List.getElem_mem hlt, hn⟩
    · have HB := Lx.Hd.mk hB
      have HS := Lx.Hd.mk hSn
      clear hB hSn
      go_wp2
      go_ret
      obtain rfl : i = l.length := by omega
      refine ⟨-1, rfl, HB.out, .inl ⟨rfl, ?_⟩⟩
      rw [List.any_eq_false]
      intro x hx
      obtain ⟨j, hj, rfl⟩ := List.getElem_of_mem hx
      rw [HS.out j hj _ (List.getElem?_eq_getElem hj)]
      decide
theorem contains_q (A : Option Addr) (c : Nat) (l : List SQ) (w : World) (hC : kQ.C w A l.length l) (hs : ∀ x ∈ l, x.f0.size ≤ 140737488351232) (hG : Keys w) :
    Calls Tryd.prog 111 #[.slice A l.length c, .func (.func 112) #[] #[]] w fun e w' => e = .returned (.bool (l.any badQ)) ∧ Below w.heap.size w w' := by
  have HI := Lx.Hd.mk (index_q A c l w hC hs hG)
  go_enter Tryd.func111, Tryd.ntmps111
  go_wp2_with (go_at_call 136; refine HI.out.mono ?_; rintro e w1 ⟨r, rfl, hb, hr⟩; have HB := Lx.Hd.mk hb; have HR := Lx.Hd.mk hr; clear hb hr)
  all_goals
    go_ret
    refine ⟨?_, HB.out⟩
    rcases HR.out with ⟨h1, h2⟩ | ⟨h1, h2⟩
    · rw [h2]; subst h1; rfl
    · rw [h2]; simp [h1]
def declV (a0 : Int) (s : ByteArray) (n : Nat) (a3 a4 a6 : Int) (bad : Bool) : Bool :=
  if decide (a6 < 0) then false else
  if a0 == 1 then (if !nameB s then false else if decide ((n : Int) > 8) then false else if !(a3 == 0) then false else if !(a4 == 0) then false else !bad) else
  if a0 == 2 then s.toList.isEmpty && (((n : Int) == 0) && ((a3 == 0) && (a4 == 0))) else
  if a0 == 3 then s.toList.isEmpty && (((n : Int) == 0) && (decide (a3 ≥ 0) && (decide (a3 ≤ 31) && (decide (a4 ≥ 1) && decide (a4 ≤ 15))))) else false
def declB (d : SD) : Bool := declV d.f0 d.f1 d.f2.length d.f3 d.f4 d.f6 (d.f2.any badQ)
def BoxV (W : World) (b : Nat) (a0 a3 a4 a6 : Int) (s : ByteArray) (A2 A5 : Option Addr) (n n5 c2 c5 : Nat) : Prop := W.cell? ⟨b, 0, none⟩ = some (.int .i64 a0) ∧ W.cell? ⟨b, 1, none⟩ = some (.string s) ∧ W.cell? ⟨b, 2, none⟩ = some (.slice A2 n c2) ∧ W.cell? ⟨b, 3, none⟩ = some (.int .i64 a3) ∧ W.cell? ⟨b, 4, none⟩ = some (.int .i64 a4) ∧ W.cell? ⟨b, 5, none⟩ = some (.slice A5 n5 c5) ∧ W.cell? ⟨b, 6, none⟩ = some (.int .i64 a6)
theorem boxV_of {W : World} {b : Nat} {a0 a3 a4 a6 : Int} {s : ByteArray} {A2 A5 : Option Addr} {n n5 c2 c5 : Nat} (h : W.heap[b]? = some (.cells #[.int .i64 a0, .string s, .slice A2 n c2, .int .i64 a3, .int .i64 a4, .slice A5 n5 c5, .int .i64 a6] 49 (0, 0))) : ∀ W', Below W.heap.size W W' → BoxV W' b a0 a3 a4 a6 s A2 A5 n n5 c2 c5 := fun W' hb => by
  have k := kept_cells h W' hb
  exact ⟨k 0 _ rfl, k 1 _ rfl, k 2 _ rfl, k 3 _ rfl, k 4 _ rfl, k 5 _ rfl, k 6 _ rfl⟩
set_option maxRecDepth 100000 in
set_option maxHeartbeats 8000000 in
theorem decl_vals (a0 a3 a4 a6 : Int) (s : ByteArray) (A2 A5 : Option Addr) (n n5 c2 c5 : Nat) (bad : Bool) (w : World) (hs : s.size ≤ 140737488351232) (hG : Keys w)
    (hk : ∀ W, Below w.heap.size w W → Calls Tryd.prog 111 #[.slice A2 n c2, .func (.func 112) #[] #[]] W fun e W' => e = .returned (.bool bad) ∧ Below W.heap.size W W') :
    Calls Tryd.prog 78 #[.agg #[.int .i64 a0, .string s, .slice A2 n c2, .int .i64 a3, .int .i64 a4, .slice A5 n5 c5, .int .i64 a6]] w fun e w' => e = .returned (.bool (declV a0 s n a3 a4 a6 bad)) ∧ Below w.heap.size w w' := by
  have HG := Lx.Hd.mk hG
  have HK0 := Lx.Hd.mk hk
  clear hG hk
  go_enter Tryd.func78, Tryd.ntmps78
  go_upto_region 1 with (fail)
  refine name_world fun W2 hW2 => ?_
  have HB0 : Lx.Hd (Below w.heap.size w W2) := Lx.Hd.mk (by rw [hW2]; exact below_alloc (Below.refl _ _) _)
  have hb1 : W2.heap[w.heap.size]? = some (.cells #[.int .i64 a0, .string s, .slice A2 n c2, .int .i64 a3, .int .i64 a4, .slice A5 n5 c5, .int .i64 a6] 49 (0, 0)) := by rw [hW2]; exact World.alloc_heap_new w _
  have BC1 := Lx.Hd.mk (boxV_of hb1)
  have HB : Lx.Hd (Below W2.heap.size W2 W2) := Lx.Hd.mk (Below.refl _ _)
  have HG2 := Lx.Hd.mk (Keys.below HG.out HB0.out)
  have HK : Lx.Hd (∀ W, Below W2.heap.size W2 W → Calls Tryd.prog 111 #[.slice A2 n c2, .func (.func 112) #[] #[]] W fun e W' => e = .returned (.bool bad) ∧ Below W.heap.size W W') := Lx.Hd.mk fun W hb => HK0.out W (HB0.out.trans (hb.mono HB0.out.size))
  clear hW2 hb1 HG HK0
  generalize w.heap.size = bx at BC1 ⊢
  obtain ⟨p0, p1, p2, p3, p4, p5, p6⟩ := BC1.out _ HB.out
  by_cases g6 : a6 < 0
  · have g6t : decide (a6 < 0) = true := decide_eq_true (by omega)
    go_wp2
    go_ret
    exact ⟨by unfold declV; simp only [g6t, Bool.false_eq_true, if_true, if_false, Bool.not_true, Bool.not_false, Bool.true_and, Bool.false_and, Bool.and_true, Bool.and_false]; rfl, bto HB0 HB⟩
  · have g6f : decide (a6 < 0) = false := decide_eq_false (by omega)
    by_cases y1 : a0 = 1
    · have y1t : (a0 == 1) = true := beq_iff_eq.2 (by omega); have y1u : (a0 != 1) = false := by rw [bne, y1t]; rfl
      cases hnm : nameB s
      · skip
        go_wp2_with (first | (go_at_call 77; (with_reducible refine (name_any s _ hs ?s1).mono ?_); (case s1 => exact Keys.below HG2.out HB.out); rw [hnm]; rintro r W3 ⟨rfl, hb⟩; replace HB := bst HB hb; clear hb; clear p0 p1 p2 p3 p4 p5 p6; obtain ⟨p0, p1, p2, p3, p4, p5, p6⟩ := BC1.out _ HB.out) | (go_at_call 111; (with_reducible refine (HK.out _ HB.out).mono ?_); rw [hbad]; rintro r W3 ⟨rfl, hb⟩; replace HB := bst HB hb; clear hb; clear p0 p1 p2 p3 p4 p5 p6; obtain ⟨p0, p1, p2, p3, p4, p5, p6⟩ := BC1.out _ HB.out) | fail)
        go_ret
        exact ⟨by unfold declV; simp only [g6f, y1t, hnm, Bool.false_eq_true, if_true, if_false, Bool.not_true, Bool.not_false, Bool.true_and, Bool.false_and, Bool.and_true, Bool.and_false]; rfl, bto HB0 HB⟩
      · skip
        by_cases g8 : (n : Int) > 8
        · have g8t : decide ((n : Int) > 8) = true := decide_eq_true (by omega)
          go_wp2_with (first | (go_at_call 77; (with_reducible refine (name_any s _ hs ?s1).mono ?_); (case s1 => exact Keys.below HG2.out HB.out); rw [hnm]; rintro r W3 ⟨rfl, hb⟩; replace HB := bst HB hb; clear hb; clear p0 p1 p2 p3 p4 p5 p6; obtain ⟨p0, p1, p2, p3, p4, p5, p6⟩ := BC1.out _ HB.out) | (go_at_call 111; (with_reducible refine (HK.out _ HB.out).mono ?_); rw [hbad]; rintro r W3 ⟨rfl, hb⟩; replace HB := bst HB hb; clear hb; clear p0 p1 p2 p3 p4 p5 p6; obtain ⟨p0, p1, p2, p3, p4, p5, p6⟩ := BC1.out _ HB.out) | fail)
          go_ret
          exact ⟨by unfold declV; simp only [g6f, y1t, hnm, g8t, Bool.false_eq_true, if_true, if_false, Bool.not_true, Bool.not_false, Bool.true_and, Bool.false_and, Bool.and_true, Bool.and_false]; rfl, bto HB0 HB⟩
        · have g8f : decide ((n : Int) > 8) = false := decide_eq_false (by omega)
          by_cases z3 : a3 = 0
          · have z3t : (a3 == 0) = true := beq_iff_eq.2 (by omega); have z3u : (a3 != 0) = false := by rw [bne, z3t]; rfl
            by_cases z4 : a4 = 0
            · have z4t : (a4 == 0) = true := beq_iff_eq.2 (by omega); have z4u : (a4 != 0) = false := by rw [bne, z4t]; rfl
              cases hbad : bad
              · skip
                go_wp2_with (first | (go_at_call 77; (with_reducible refine (name_any s _ hs ?s1).mono ?_); (case s1 => exact Keys.below HG2.out HB.out); rw [hnm]; rintro r W3 ⟨rfl, hb⟩; replace HB := bst HB hb; clear hb; clear p0 p1 p2 p3 p4 p5 p6; obtain ⟨p0, p1, p2, p3, p4, p5, p6⟩ := BC1.out _ HB.out) | (go_at_call 111; (with_reducible refine (HK.out _ HB.out).mono ?_); rw [hbad]; rintro r W3 ⟨rfl, hb⟩; replace HB := bst HB hb; clear hb; clear p0 p1 p2 p3 p4 p5 p6; obtain ⟨p0, p1, p2, p3, p4, p5, p6⟩ := BC1.out _ HB.out) | fail)
                go_ret
                exact ⟨by unfold declV; simp only [g6f, y1t, hnm, g8f, z3t, z4t, hbad, Bool.false_eq_true, if_true, if_false, Bool.not_true, Bool.not_false, Bool.true_and, Bool.false_and, Bool.and_true, Bool.and_false]; rfl, bto HB0 HB⟩
              · skip
                go_wp2_with (first | (go_at_call 77; (with_reducible refine (name_any s _ hs ?s1).mono ?_); (case s1 => exact Keys.below HG2.out HB.out); rw [hnm]; rintro r W3 ⟨rfl, hb⟩; replace HB := bst HB hb; clear hb; clear p0 p1 p2 p3 p4 p5 p6; obtain ⟨p0, p1, p2, p3, p4, p5, p6⟩ := BC1.out _ HB.out) | (go_at_call 111; (with_reducible refine (HK.out _ HB.out).mono ?_); rw [hbad]; rintro r W3 ⟨rfl, hb⟩; replace HB := bst HB hb; clear hb; clear p0 p1 p2 p3 p4 p5 p6; obtain ⟨p0, p1, p2, p3, p4, p5, p6⟩ := BC1.out _ HB.out) | fail)
                go_ret
                exact ⟨by unfold declV; simp only [g6f, y1t, hnm, g8f, z3t, z4t, hbad, Bool.false_eq_true, if_true, if_false, Bool.not_true, Bool.not_false, Bool.true_and, Bool.false_and, Bool.and_true, Bool.and_false]; rfl, bto HB0 HB⟩
            · have z4f : (a4 == 0) = false := beq_eq_false_iff_ne.2 (by omega); have z4v : (a4 != 0) = true := by rw [bne, z4f]; rfl
              go_wp2_with (first | (go_at_call 77; (with_reducible refine (name_any s _ hs ?s1).mono ?_); (case s1 => exact Keys.below HG2.out HB.out); rw [hnm]; rintro r W3 ⟨rfl, hb⟩; replace HB := bst HB hb; clear hb; clear p0 p1 p2 p3 p4 p5 p6; obtain ⟨p0, p1, p2, p3, p4, p5, p6⟩ := BC1.out _ HB.out) | (go_at_call 111; (with_reducible refine (HK.out _ HB.out).mono ?_); rw [hbad]; rintro r W3 ⟨rfl, hb⟩; replace HB := bst HB hb; clear hb; clear p0 p1 p2 p3 p4 p5 p6; obtain ⟨p0, p1, p2, p3, p4, p5, p6⟩ := BC1.out _ HB.out) | fail)
              go_ret
              exact ⟨by unfold declV; simp only [g6f, y1t, hnm, g8f, z3t, z4f, Bool.false_eq_true, if_true, if_false, Bool.not_true, Bool.not_false, Bool.true_and, Bool.false_and, Bool.and_true, Bool.and_false]; rfl, bto HB0 HB⟩
          · have z3f : (a3 == 0) = false := beq_eq_false_iff_ne.2 (by omega); have z3v : (a3 != 0) = true := by rw [bne, z3f]; rfl
            go_wp2_with (first | (go_at_call 77; (with_reducible refine (name_any s _ hs ?s1).mono ?_); (case s1 => exact Keys.below HG2.out HB.out); rw [hnm]; rintro r W3 ⟨rfl, hb⟩; replace HB := bst HB hb; clear hb; clear p0 p1 p2 p3 p4 p5 p6; obtain ⟨p0, p1, p2, p3, p4, p5, p6⟩ := BC1.out _ HB.out) | (go_at_call 111; (with_reducible refine (HK.out _ HB.out).mono ?_); rw [hbad]; rintro r W3 ⟨rfl, hb⟩; replace HB := bst HB hb; clear hb; clear p0 p1 p2 p3 p4 p5 p6; obtain ⟨p0, p1, p2, p3, p4, p5, p6⟩ := BC1.out _ HB.out) | fail)
            go_ret
            exact ⟨by unfold declV; simp only [g6f, y1t, hnm, g8f, z3f, Bool.false_eq_true, if_true, if_false, Bool.not_true, Bool.not_false, Bool.true_and, Bool.false_and, Bool.and_true, Bool.and_false]; rfl, bto HB0 HB⟩
    · have y1f : (a0 == 1) = false := beq_eq_false_iff_ne.2 (by omega); have y1v : (a0 != 1) = true := by rw [bne, y1f]; rfl
      by_cases y2 : a0 = 2
      · have y2t : (a0 == 2) = true := beq_iff_eq.2 (by omega); have y2u : (a0 != 2) = false := by rw [bne, y2t]; rfl
        cases hem : s.toList.isEmpty
        · skip
          go_wp2
          go_ret
          exact ⟨by unfold declV; simp only [g6f, y1f, y2t, hem, Bool.false_eq_true, if_true, if_false, Bool.not_true, Bool.not_false, Bool.true_and, Bool.false_and, Bool.and_true, Bool.and_false]; rfl, bto HB0 HB⟩
        · skip
          by_cases zn : (n : Int) = 0
          · have znt : ((n : Int) == 0) = true := beq_iff_eq.2 (by omega); have znu : ((n : Int) != 0) = false := by rw [bne, znt]; rfl
            by_cases z3 : a3 = 0
            · have z3t : (a3 == 0) = true := beq_iff_eq.2 (by omega); have z3u : (a3 != 0) = false := by rw [bne, z3t]; rfl
              by_cases z4 : a4 = 0
              · have z4t : (a4 == 0) = true := beq_iff_eq.2 (by omega); have z4u : (a4 != 0) = false := by rw [bne, z4t]; rfl
                go_wp2
                go_ret
                exact ⟨by unfold declV; simp only [g6f, y1f, y2t, hem, znt, z3t, z4t, Bool.false_eq_true, if_true, if_false, Bool.not_true, Bool.not_false, Bool.true_and, Bool.false_and, Bool.and_true, Bool.and_false]; rfl, bto HB0 HB⟩
              · have z4f : (a4 == 0) = false := beq_eq_false_iff_ne.2 (by omega); have z4v : (a4 != 0) = true := by rw [bne, z4f]; rfl
                go_wp2
                go_ret
                exact ⟨by unfold declV; simp only [g6f, y1f, y2t, hem, znt, z3t, z4f, Bool.false_eq_true, if_true, if_false, Bool.not_true, Bool.not_false, Bool.true_and, Bool.false_and, Bool.and_true, Bool.and_false]; rfl, bto HB0 HB⟩
            · have z3f : (a3 == 0) = false := beq_eq_false_iff_ne.2 (by omega); have z3v : (a3 != 0) = true := by rw [bne, z3f]; rfl
              go_wp2
              go_ret
              exact ⟨by unfold declV; simp only [g6f, y1f, y2t, hem, znt, z3f, Bool.false_eq_true, if_true, if_false, Bool.not_true, Bool.not_false, Bool.true_and, Bool.false_and, Bool.and_true, Bool.and_false]; rfl, bto HB0 HB⟩
          · have znf : ((n : Int) == 0) = false := beq_eq_false_iff_ne.2 (by omega); have znv : ((n : Int) != 0) = true := by rw [bne, znf]; rfl
            go_wp2
            go_ret
            exact ⟨by unfold declV; simp only [g6f, y1f, y2t, hem, znf, Bool.false_eq_true, if_true, if_false, Bool.not_true, Bool.not_false, Bool.true_and, Bool.false_and, Bool.and_true, Bool.and_false]; rfl, bto HB0 HB⟩
      · have y2f : (a0 == 2) = false := beq_eq_false_iff_ne.2 (by omega); have y2v : (a0 != 2) = true := by rw [bne, y2f]; rfl
        by_cases y3 : a0 = 3
        · have y3t : (a0 == 3) = true := beq_iff_eq.2 (by omega); have y3u : (a0 != 3) = false := by rw [bne, y3t]; rfl
          cases hem : s.toList.isEmpty
          · skip
            go_wp2
            go_ret
            exact ⟨by unfold declV; simp only [g6f, y1f, y2f, y3t, hem, Bool.false_eq_true, if_true, if_false, Bool.not_true, Bool.not_false, Bool.true_and, Bool.false_and, Bool.and_true, Bool.and_false]; rfl, bto HB0 HB⟩
          · skip
            by_cases zn : (n : Int) = 0
            · have znt : ((n : Int) == 0) = true := beq_iff_eq.2 (by omega); have znu : ((n : Int) != 0) = false := by rw [bne, znt]; rfl
              by_cases r1 : a3 ≥ 0
              · have r1t : decide (a3 ≥ 0) = true := decide_eq_true (by omega)
                by_cases r2 : a3 ≤ 31
                · have r2t : decide (a3 ≤ 31) = true := decide_eq_true (by omega)
                  by_cases r3 : a4 ≥ 1
                  · have r3t : decide (a4 ≥ 1) = true := decide_eq_true (by omega)
                    by_cases r4 : a4 ≤ 15
                    · have r4t : decide (a4 ≤ 15) = true := decide_eq_true (by omega)
                      go_wp2
                      go_ret
                      exact ⟨by unfold declV; simp only [g6f, y1f, y2f, y3t, hem, znt, r1t, r2t, r3t, r4t, Bool.false_eq_true, if_true, if_false, Bool.not_true, Bool.not_false, Bool.true_and, Bool.false_and, Bool.and_true, Bool.and_false]; rfl, bto HB0 HB⟩
                    · have r4f : decide (a4 ≤ 15) = false := decide_eq_false (by omega)
                      go_wp2
                      go_ret
                      exact ⟨by unfold declV; simp only [g6f, y1f, y2f, y3t, hem, znt, r1t, r2t, r3t, r4f, Bool.false_eq_true, if_true, if_false, Bool.not_true, Bool.not_false, Bool.true_and, Bool.false_and, Bool.and_true, Bool.and_false]; rfl, bto HB0 HB⟩
                  · have r3f : decide (a4 ≥ 1) = false := decide_eq_false (by omega)
                    go_wp2
                    go_ret
                    exact ⟨by unfold declV; simp only [g6f, y1f, y2f, y3t, hem, znt, r1t, r2t, r3f, Bool.false_eq_true, if_true, if_false, Bool.not_true, Bool.not_false, Bool.true_and, Bool.false_and, Bool.and_true, Bool.and_false]; rfl, bto HB0 HB⟩
                · have r2f : decide (a3 ≤ 31) = false := decide_eq_false (by omega)
                  go_wp2
                  go_ret
                  exact ⟨by unfold declV; simp only [g6f, y1f, y2f, y3t, hem, znt, r1t, r2f, Bool.false_eq_true, if_true, if_false, Bool.not_true, Bool.not_false, Bool.true_and, Bool.false_and, Bool.and_true, Bool.and_false]; rfl, bto HB0 HB⟩
              · have r1f : decide (a3 ≥ 0) = false := decide_eq_false (by omega)
                go_wp2
                go_ret
                exact ⟨by unfold declV; simp only [g6f, y1f, y2f, y3t, hem, znt, r1f, Bool.false_eq_true, if_true, if_false, Bool.not_true, Bool.not_false, Bool.true_and, Bool.false_and, Bool.and_true, Bool.and_false]; rfl, bto HB0 HB⟩
            · have znf : ((n : Int) == 0) = false := beq_eq_false_iff_ne.2 (by omega); have znv : ((n : Int) != 0) = true := by rw [bne, znf]; rfl
              go_wp2
              go_ret
              exact ⟨by unfold declV; simp only [g6f, y1f, y2f, y3t, hem, znf, Bool.false_eq_true, if_true, if_false, Bool.not_true, Bool.not_false, Bool.true_and, Bool.false_and, Bool.and_true, Bool.and_false]; rfl, bto HB0 HB⟩
        · have y3f : (a0 == 3) = false := beq_eq_false_iff_ne.2 (by omega); have y3v : (a0 != 3) = true := by rw [bne, y3f]; rfl
          go_wp2
          go_ret
          exact ⟨by unfold declV; simp only [g6f, y1f, y2f, y3f, Bool.false_eq_true, if_true, if_false, Bool.not_true, Bool.not_false, Bool.true_and, Bool.false_and, Bool.and_true, Bool.and_false]; rfl, bto HB0 HB⟩
theorem decl_any (d : SD) (A2 A5 : Option Addr) (c2 c5 : Nat) (w : World) (hG : Keys w) (h2 : kQ.C w A2 d.f2.length d.f2) (hs : d.f1.size ≤ 140737488351232) (hq : ∀ x ∈ d.f2, x.f0.size ≤ 140737488351232) :
    Calls Tryd.prog 78 #[.agg #[.int .i64 d.f0, .string d.f1, .slice A2 d.f2.length c2, .int .i64 d.f3, .int .i64 d.f4, .slice A5 d.f5.length c5, .int .i64 d.f6]] w fun e w' => e = .returned (.bool (declB d)) ∧ Below w.heap.size w w' :=
  decl_vals d.f0 d.f3 d.f4 d.f6 d.f1 A2 A5 d.f2.length d.f5.length c2 c5 (d.f2.any badQ) w hs hG fun W hb => contains_q A2 c2 d.f2 W (Kd.C_below h2 hb) hq (Keys.below hG hb)
end Go.Proofs.YtgkhpecllhiidaaDoor.A
namespace Go.Proofs.YtgkhpecllhiidaaDoor.A
open Go.RowKit Go.Shelf Go.Proofs.YtgkhpecllhiidaaDoor.As Go.Proofs.YtgkhpecllhiidaaDoorW.PrintWords Go.Proofs.YtgkhpecllhiidaaDoorW.PrintLast Go.Proofs.YtgkhpecllhiidaaDoorW.PrintMore
def globB (g : SG) : Bool := nameB g.f0 && (decide (widthI g.f1 > 0) && (decide (g.f2 ≥ 0) && (decide (g.f2 ≤ 4096) && (decide ((g.f3.length : Int) ≤ max 1 g.f2) && decide (g.f4 ≥ 0)))))
theorem glob_f (g : SG) (hs : g.f0.size ≤ 140737488351232) : ast_global.f g.f0 g.f1 g.f2 g.f3 g.f4 = some (globB g) := by
  unfold ast_global.f ast_name.f lex_Kind.f
  rw [if_pos hs, Option.bind_some, Option.bind_some]
  have hw : ast_Width.f g.f1 = some (widthI g.f1) := by
    unfold ast_Width.f widthI
    repeat' split
    all_goals rfl
  rw [hw, Option.bind_some]
  have hm : mx 1 g.f2 = max 1 g.f2 := by unfold mx; omega
  rw [hm]
  unfold globB nameB
  cases h : (Lx.kindOf g.f0 == 1)
  · rw [if_neg (by simp), Bool.false_and]
  · rw [if_pos rfl, Bool.true_and]
    by_cases h1 : widthI g.f1 > 0
    · rw [if_pos h1, decide_eq_true h1, Bool.true_and]
      by_cases h2 : g.f2 ≥ 0
      · rw [if_pos h2, decide_eq_true h2, Bool.true_and]
        by_cases h3 : g.f2 ≤ 4096
        · rw [if_pos h3, decide_eq_true h3, Bool.true_and]
          by_cases h4 : (g.f3.length : Int) ≤ max 1 g.f2
          · rw [if_pos h4, decide_eq_true h4, Bool.true_and]
          · rw [if_neg h4, decide_eq_false h4, Bool.false_and]
        · rw [if_neg h3, decide_eq_false h3, Bool.false_and]
      · rw [if_neg h2, decide_eq_false h2, Bool.false_and]
    · rw [if_neg h1, decide_eq_false h1, Bool.false_and]
theorem glob_any (g : SG) (A3 : Option Addr) (c3 : Nat) (w : World) (hG : Keys w) (hR : RowsG w g A3 c3) (hs : g.f0.size ≤ 140737488351232) :
    Calls Tryd.prog 76 #[.agg #[.string g.f0, .int .i64 g.f1, .int .i64 g.f2, .slice A3 g.f3.length c3, .int .i64 g.f4]] w fun e w' => e = .returned (.bool (globB g)) ∧ Below w.heap.size w w' :=
  ast_global.calls g.f0 g.f1 g.f2 A3 c3 g.f3 g.f4 (globB g) w hG hR.1 hR.2 (glob_f g hs)
def gateB (t : ST) : Bool := if !nameB t.f0 then false else if !t.f1 && !t.f2 then false else decide (t.f3 ≥ 0)
def checkV (n s : Int) (g t d : Bool) : Int := if n == 3 then 3 else if n != 0 then 2 else if decide (s < 1) then 2 else if decide (s > 65536) then 2 else if !g then 2 else if !t then 2 else if !d then 2 else 0
def checkP (p : SP) : Int := checkV (checkN (nodes p.f3)) p.f0 (p.f1.all globB) (p.f2.all gateB) (p.f3.all declB)
def okT (s : ByteArray) : Bool := decide (s.size ≤ 140737488351232)
def fitP (p : SP) : Bool := decide ((bodies p.f3).length * 16 ≤ 140737488355328) && (decide (sizes (nodes p.f3) < 4611686018427387904) && ((nodes p.f3).all fitB && (p.f1.all (fun g => okT g.f0) && (p.f2.all (fun g => okT g.f0) && p.f3.all (fun d => okT d.f1 && d.f2.all (fun q => okT q.f0))))))
theorem fitP_parts {p : SP} (h : fitP p = true) : (bodies p.f3).length * 16 ≤ 140737488355328 ∧ sizes (nodes p.f3) < 4611686018427387904 ∧ (∀ x ∈ nodes p.f3, fitB x = true) ∧ (∀ g ∈ p.f1, g.f0.size ≤ 140737488351232) ∧ (∀ g ∈ p.f2, g.f0.size ≤ 140737488351232) ∧ ∀ d ∈ p.f3, d.f1.size ≤ 140737488351232 ∧ ∀ q ∈ d.f2, q.f0.size ≤ 140737488351232 := by
  unfold fitP okT at h
  simp only [Bool.and_eq_true, decide_eq_true_eq, List.all_eq_true] at h
  exact h
theorem all_take_snoc {α : Type} {f : α → Bool} {l : List α} {i : Nat} (h : i < l.length) (a : (l.take i).all f = true) (b : f l[i] = true) : (l.take (i + 1)).all f = true := by
  rw [List.take_succ_eq_append_getElem h, List.all_append, a, Bool.true_and, List.all_cons, b]; rfl
theorem all_no {α : Type} {f : α → Bool} {l : List α} {i : Nat} (h : i < l.length) (b : f l[i] = false) : l.all f = false := by
  rw [List.all_eq_false]; exact ⟨l[i], List.getElem_mem h, by rw [b]; simp⟩
theorem all_full {α : Type} {f : α → Bool} {l : List α} {i : Nat} (h : i = l.length) (a : (l.take i).all f = true) : l.all f = true := by
  rw [← List.take_length (l := l), ← h]; exact a
set_option maxRecDepth 100000 in
set_option maxHeartbeats 8000000 in
theorem check_prog (p : SP) (A1 A2 A3 : Option Addr) (c1 c2 c3 : Nat) (w : World) (hG : Keys w) (hR : RowsP w p A1 A2 A3 c1 c2 c3) (hF : fitP p = true) :
    Calls Tryd.prog 34 #[.agg #[.int .i64 p.f0, .slice A1 p.f1.length c1, .slice A2 p.f2.length c2, .slice A3 p.f3.length c3]] w fun e w' => e = .returned (.int .i64 (checkP p)) ∧ Below w.heap.size w w' := by
  have l1 : p.f1.length ≤ 9223372036854775807 := hR.1.2.1
  have l2 : p.f2.length ≤ 9223372036854775807 := hR.2.1.2.1
  have l3 : p.f3.length ≤ 9223372036854775807 := hR.2.2.1.2.1
  have HF := Lx.Hd.mk (fitP_parts hF)
  have HG := Lx.Hd.mk hG
  have HR := Lx.Hd.mk hR
  clear hF hG hR
  go_enter Tryd.func34, Tryd.ntmps34
  go_upto_region 1 with (fail)
  refine name_world fun W1 hW1 => ?_
  have HB0 : Lx.Hd (Below w.heap.size w W1) := Lx.Hd.mk (by rw [hW1]; exact below_alloc (Below.refl _ _) _)
  have hb1 : W1.heap[w.heap.size]? = some (.cells #[.int .i64 p.f0, .slice A1 p.f1.length c1, .slice A2 p.f2.length c2, .slice A3 p.f3.length c3] 46 (0, 0)) := by rw [hW1]; exact World.alloc_heap_new w _
  have BC1 := Lx.Hd.mk (kept_cells hb1)
  have HG1 := Lx.Hd.mk (Keys.below HG.out HB0.out)
  have HR0 := Lx.Hd.mk (RowsP.below HR.out HB0.out)
  have HR1 := Lx.Hd.mk HR0.out.1
  have HR2 := Lx.Hd.mk HR0.out.2.1
  have HR3 := Lx.Hd.mk HR0.out.2.2.1
  have HAll := Lx.Hd.mk (all_any p.f0 (.slice A1 p.f1.length c1) (.slice A2 p.f2.length c2) rfl rfl A3 c3 p.f3 W1 HR3.out l3 HF.out.1)
  clear hW1 hb1 HG HR
  generalize w.heap.size = bx at BC1 ⊢
  have hln : (nodes p.f3).length = (bodies p.f3).length := List.length_map _
  have hP : checkP p = checkV (checkN (nodes p.f3)) p.f0 (p.f1.all globB) (p.f2.all gateB) (p.f3.all declB) := rfl
  have hfit : (∀ x ∈ nodes p.f3, fitB x = true) ∧ sizes (nodes p.f3) < 4611686018427387904 := ⟨HF.out.2.2.1, HF.out.2.1⟩
  generalize hnd : nodes p.f3 = l at hln hP hfit
  have HAll2 : Lx.Hd (Calls Tryd.prog 61 #[.agg #[.int .i64 p.f0, .slice A1 p.f1.length c1, .slice A2 p.f2.length c2, .slice A3 p.f3.length c3]] W1 fun r w' => ∃ A' c', r = .returned (.slice A' l.length c') ∧ Below W1.heap.size W1 w' ∧ NdsAt w' A' l) := Lx.Hd.mk (by rw [hln, ← hnd]; exact HAll.out)
  have HFT := Lx.Hd.mk hfit
  clear HAll hln hnd hfit
  obtain ⟨n, hn⟩ : ∃ n, checkN l = n := ⟨_, rfl⟩
  rw [hn] at hP
  have HP := Lx.Hd.mk hP
  have HN0 := Lx.Hd.mk hn
  clear hP hn
  have HC : Lx.Hd (Below W1.heap.size W1 W1) := Lx.Hd.mk (Below.refl _ _)
  have p0 := BC1.out _ HC.out 0 _ rfl
  have p1 := BC1.out _ HC.out 1 _ rfl
  have p2 := BC1.out _ HC.out 2 _ rfl
  have p3 := BC1.out _ HC.out 3 _ rfl
  go_upto_region 2 with (go_at_call 61; refine HAll2.out.mono ?_; rintro r W2 ⟨A', c', rfl, hb, hN⟩; have HN := Lx.Hd.mk hN; have HC2 := Lx.Hd.mk hb; clear hb hN)
  clear HC HAll2 p0 p1 p2 p3
  go_upto_region 3 with (go_at_call 59; (with_reducible refine (check_any A' c' l _ ?s1 HN.out HFT.out.2 (fun x hx => (fit_parts (HFT.out.1 x hx)).2.1) (fun x hx => (fit_parts (HFT.out.1 x hx)).2.2)).mono ?_); (case s1 => exact Keys.below HG1.out HC2.out); rw [HN0.out]; rintro r W3 ⟨rfl, hb⟩; have HC : Lx.Hd (Below W1.heap.size W1 W3) := Lx.Hd.mk (HC2.out.trans (hb.mono HC2.out.size)); clear hb HC2 HN)
  have p0 := BC1.out _ HC.out 0 _ rfl
  have p1 := BC1.out _ HC.out 1 _ rfl
  have p2 := BC1.out _ HC.out 2 _ rfl
  have p3 := BC1.out _ HC.out 3 _ rfl
  by_cases h3 : n = 3
  · have h3' : (n == 3) = true := beq_iff_eq.2 h3
    go_wp2
    go_ret
    exact ⟨Lx.ret_int (by rw [HP.out]; unfold checkV; simp [h3]), HB0.out.trans (HC.out.mono HB0.out.size)⟩
  have h3' : (n == 3) = false := beq_eq_false_iff_ne.2 h3
  by_cases h0 : n = 0
  rotate_left
  · have h0' : (n != 0) = true := by rw [bne, beq_eq_false_iff_ne.2 h0]; rfl
    go_wp2
    go_ret
    exact ⟨Lx.ret_int (by rw [HP.out]; unfold checkV; simp [h3, h0]), HB0.out.trans (HC.out.mono HB0.out.size)⟩
  subst h0
  clear h3 h3'
  by_cases s1 : p.f0 < 1
  · have s1' : decide (p.f0 < 1) = true := decide_eq_true s1
    go_wp2
    go_ret
    exact ⟨Lx.ret_int (by rw [HP.out]; unfold checkV; simp [show p.f0 < 1 from s1]), HB0.out.trans (HC.out.mono HB0.out.size)⟩
  have s1' : decide (p.f0 < 1) = false := decide_eq_false s1
  by_cases s2 : p.f0 > 65536
  · have s2' : decide (p.f0 > 65536) = true := decide_eq_true s2
    go_wp2
    go_ret
    exact ⟨Lx.ret_int (by rw [HP.out]; unfold checkV; simp [s1, show 65536 < p.f0 from s2]), HB0.out.trans (HC.out.mono HB0.out.size)⟩
  have s2' : decide (p.f0 > 65536) = false := decide_eq_false s2
  replace s2 : ¬ 65536 < p.f0 := s2
  go_wp2
  clear p0 p1 s1' s2'
  clear p2 p3
  go_loopw [33] (fun ts wr => ∃ i : Nat, i ≤ p.f1.length ∧ ts = .int .i64 i ∧ (p.f1.take i).all globB = true ∧ Below W1.heap.size W1 wr) (fun ts _ => p.f1.length - (intOf ts).toNat)
  case atStart => exact ⟨0, Nat.zero_le _, rfl, rfl, HC.out⟩
  case round =>
    clear HC
    obtain ⟨i, hi, rfl, hS, hC⟩ := hrel
    by_cases hlt : i < p.f1.length
    · obtain ⟨ad, E3, x3, rfl, e0, e1, e2, e3, e4, k3, g3⟩ := at_T99 HR1.out i (by omega) (by omega)
      have ex : rd_T99 p.f1 i = p.f1[i] := by unfold rd_T99; rw [Int.toNat_natCast, List.getD_eq_getElem?_getD, List.getElem?_eq_getElem hlt]; rfl
      have hmem := List.getElem_mem hlt
      have hno : ∀ b, globB p.f1[i] = b → b = false → p.f1.all globB = false := fun b h h2 => all_no hlt (h.trans h2)
      have hyes : ∀ b, globB p.f1[i] = b → b = true → (p.f1.take (i + 1)).all globB = true := fun b h h2 => all_take_snoc hlt hS (h.trans h2)
      rw [ex] at e0 e1 e2 e3 e4 k3 g3
      rw [Int.toNat_natCast] at e0 e1 e2 e3 e4
      clear ex hS
      generalize p.f1[i] = z at *
      have a0 := pw_cell_below hC e0; have a1 := pw_cell_below hC e1; have a2 := pw_cell_below hC e2; have a3 := pw_cell_below hC e3; have a4 := pw_cell_below hC e4
      have HE : Lx.Hd (RowsG W1 z E3 x3) := Lx.Hd.mk ⟨g3, k3⟩
      have HC := Lx.Hd.mk hC
      have HNO := Lx.Hd.mk hno
      have HYES := Lx.Hd.mk hyes
      have HMEM := Lx.Hd.mk hmem
      clear hC hno hyes hmem e0 e1 e2 e3 e4 k3 g3
      go_upto_region 10 with (fail)
      refine name_world fun W3 hW3 => ?_
      have hb3 : W3.heap[wr.heap.size]? = some (.cells #[.string z.f0, .int .i64 z.f1, .int .i64 z.f2, .slice E3 z.f3.length x3, .int .i64 z.f4] 99 (0, 0)) := by rw [hW3]; exact World.alloc_heap_new _ _
      have HC3 : Lx.Hd (Below W1.heap.size W1 W3) := Lx.Hd.mk (by rw [hW3]; exact HC.out.trans ((below_alloc (Below.refl _ wr) _).mono HC.out.size))
      have BZ := Lx.Hd.mk (kept_cells hb3)
      have HZ : Lx.Hd (Below W3.heap.size W3 W3) := Lx.Hd.mk (Below.refl _ _)
      clear hW3 hb3 a0 a1 a2 a3 a4
      generalize wr.heap.size = bz at BZ ⊢
      have b0 := BZ.out _ HZ.out 0 _ rfl; have b1 := BZ.out _ HZ.out 1 _ rfl; have b2 := BZ.out _ HZ.out 2 _ rfl; have b3 := BZ.out _ HZ.out 3 _ rfl; have b4 := BZ.out _ HZ.out 4 _ rfl
      cases hz : globB z
      all_goals
        go_wp2_with (go_at_call 76; (with_reducible refine (glob_any z E3 x3 _ ?s1 ?s2 (HF.out.2.2.2.1 z HMEM.out)).mono ?_); (case s1 => exact Keys.below HG1.out HC3.out); (case s2 => exact RowsG.below HE.out HC3.out); rw [hz]; rintro r W4 ⟨rfl, hb⟩; clear b0 b1 b2 b3 b4; replace HZ := bst HZ hb; clear hb)
      · skip
        go_ret
        exact ⟨Lx.ret_int (by rw [HP.out]; unfold checkV; simp [s1, s2, HNO.out _ hz rfl]), HB0.out.trans ((HC3.out.trans (HZ.out.mono HC3.out.size)).mono HB0.out.size)⟩
      · exact ⟨⟨i + 1, hlt, by go_num, HYES.out _ hz rfl, HC3.out.trans (HZ.out.mono HC3.out.size)⟩, by simp [intOf]; omega⟩
    · have HC := Lx.Hd.mk hC
      have HALL1 := Lx.Hd.mk (all_full (show i = p.f1.length by omega) hS)
      clear hC hS hi
      have p2 := BC1.out _ HC.out 2 _ rfl
      go_wp2
      clear p2
      go_loopw [44] (fun ts wr => ∃ i : Nat, i ≤ p.f2.length ∧ ts = .int .i64 i ∧ (p.f2.take i).all gateB = true ∧ Below W1.heap.size W1 wr) (fun ts _ => p.f2.length - (intOf ts).toNat)
      case atStart => exact ⟨0, Nat.zero_le _, rfl, rfl, HC.out⟩
      case round =>
        clear HC
        obtain ⟨i, hi, rfl, hS, hC⟩ := hrel
        by_cases hlt : i < p.f2.length
        · obtain ⟨ad, rfl, e0, e1, e2, e3⟩ := at_T105 HR2.out i (by omega) (by omega)
          have ex : rd_T105 p.f2 i = p.f2[i] := by unfold rd_T105; rw [Int.toNat_natCast, List.getD_eq_getElem?_getD, List.getElem?_eq_getElem hlt]; rfl
          have hmem := List.getElem_mem hlt
          have hno : ∀ b, gateB p.f2[i] = b → b = false → p.f2.all gateB = false := fun b h h2 => all_no hlt (h.trans h2)
          have hyes : ∀ b, gateB p.f2[i] = b → b = true → (p.f2.take (i + 1)).all gateB = true := fun b h h2 => all_take_snoc hlt hS (h.trans h2)
          rw [ex] at e0 e1 e2 e3
          rw [Int.toNat_natCast] at e0 e1 e2 e3
          clear ex hS
          generalize p.f2[i] = z at *
          have a0 := pw_cell_below hC e0; have a1 := pw_cell_below hC e1; have a2 := pw_cell_below hC e2; have a3 := pw_cell_below hC e3
          have HC := Lx.Hd.mk hC
          have HNO := Lx.Hd.mk hno
          have HYES := Lx.Hd.mk hyes
          have HMEM := Lx.Hd.mk hmem
          clear hC hno hyes hmem e0 e1 e2 e3
          go_upto_region 16 with (fail)
          refine name_world fun W3 hW3 => ?_
          have hb3 : W3.heap[wr.heap.size]? = some (.cells #[.string z.f0, .bool z.f1, .bool z.f2, .int .i64 z.f3] 105 (0, 0)) := by rw [hW3]; exact World.alloc_heap_new _ _
          have HC3 : Lx.Hd (Below W1.heap.size W1 W3) := Lx.Hd.mk (by rw [hW3]; exact HC.out.trans ((below_alloc (Below.refl _ wr) _).mono HC.out.size))
          have BZ := Lx.Hd.mk (kept_cells hb3)
          have HZ : Lx.Hd (Below W3.heap.size W3 W3) := Lx.Hd.mk (Below.refl _ _)
          clear hW3 hb3 a0 a1 a2 a3
          generalize wr.heap.size = bz at BZ ⊢
          have b0 := BZ.out _ HZ.out 0 _ rfl; have b1 := BZ.out _ HZ.out 1 _ rfl; have b2 := BZ.out _ HZ.out 2 _ rfl; have b3 := BZ.out _ HZ.out 3 _ rfl
          cases hnm : nameB z.f0
          · skip
            go_wp2_with (go_at_call 77; (with_reducible refine (name_any z.f0 _ (HF.out.2.2.2.2.1 z HMEM.out) ?s1).mono ?_); (case s1 => exact Keys.below HG1.out HC3.out); rw [hnm]; rintro r W4 ⟨rfl, hb⟩; clear b0 b1 b2 b3; replace HZ := bst HZ hb; clear hb; have b0 := BZ.out _ HZ.out 0 _ rfl; have b1 := BZ.out _ HZ.out 1 _ rfl; have b2 := BZ.out _ HZ.out 2 _ rfl; have b3 := BZ.out _ HZ.out 3 _ rfl)
            go_ret
            exact ⟨Lx.ret_int (by rw [HP.out]; unfold checkV; simp [s1, s2, HALL1.out, HNO.out false (by unfold gateB; simp [hnm]) rfl]), HB0.out.trans ((HC3.out.trans (HZ.out.mono HC3.out.size)).mono HB0.out.size)⟩
          · skip
            cases hf1 : z.f1 <;> cases hf2 : z.f2
            · rw [hf1] at b1; rw [hf2] at b2
              go_wp2_with (go_at_call 77; (with_reducible refine (name_any z.f0 _ (HF.out.2.2.2.2.1 z HMEM.out) ?s1).mono ?_); (case s1 => exact Keys.below HG1.out HC3.out); rw [hnm]; rintro r W4 ⟨rfl, hb⟩; clear b0 b1 b2 b3; replace HZ := bst HZ hb; clear hb; have b0 := BZ.out _ HZ.out 0 _ rfl; have b1 := BZ.out _ HZ.out 1 _ rfl; have b2 := BZ.out _ HZ.out 2 _ rfl; have b3 := BZ.out _ HZ.out 3 _ rfl)
              go_ret
              exact ⟨Lx.ret_int (by rw [HP.out]; unfold checkV; simp [s1, s2, HALL1.out, HNO.out false (by unfold gateB; simp [hnm, hf1, hf2]) rfl]), HB0.out.trans ((HC3.out.trans (HZ.out.mono HC3.out.size)).mono HB0.out.size)⟩
            · by_cases h3 : z.f3 < 0
              · have h3' : decide (z.f3 < 0) = true := decide_eq_true h3
                go_wp2_with (go_at_call 77; (with_reducible refine (name_any z.f0 _ (HF.out.2.2.2.2.1 z HMEM.out) ?s1).mono ?_); (case s1 => exact Keys.below HG1.out HC3.out); rw [hnm]; rintro r W4 ⟨rfl, hb⟩; clear b0 b1 b2 b3; replace HZ := bst HZ hb; clear hb; have b0 := BZ.out _ HZ.out 0 _ rfl; have b1 := BZ.out _ HZ.out 1 _ rfl; have b2 := BZ.out _ HZ.out 2 _ rfl; have b3 := BZ.out _ HZ.out 3 _ rfl)
                go_ret
                exact ⟨Lx.ret_int (by rw [HP.out]; unfold checkV; simp [s1, s2, HALL1.out, HNO.out false (by unfold gateB; simp [hnm, hf1, hf2, show ¬ (0 ≤ z.f3) by omega]) rfl]), HB0.out.trans ((HC3.out.trans (HZ.out.mono HC3.out.size)).mono HB0.out.size)⟩
              · have h3' : decide (z.f3 < 0) = false := decide_eq_false h3
                go_wp2_with (go_at_call 77; (with_reducible refine (name_any z.f0 _ (HF.out.2.2.2.2.1 z HMEM.out) ?s1).mono ?_); (case s1 => exact Keys.below HG1.out HC3.out); rw [hnm]; rintro r W4 ⟨rfl, hb⟩; clear b0 b1 b2 b3; replace HZ := bst HZ hb; clear hb; have b0 := BZ.out _ HZ.out 0 _ rfl; have b1 := BZ.out _ HZ.out 1 _ rfl; have b2 := BZ.out _ HZ.out 2 _ rfl; have b3 := BZ.out _ HZ.out 3 _ rfl)
                exact ⟨⟨i + 1, hlt, by go_num, HYES.out true (by unfold gateB; simp [hnm, hf1, hf2, show 0 ≤ z.f3 by omega]) rfl, HC3.out.trans (HZ.out.mono HC3.out.size)⟩, by simp [intOf]; omega⟩
            · by_cases h3 : z.f3 < 0
              · have h3' : decide (z.f3 < 0) = true := decide_eq_true h3
                go_wp2_with (go_at_call 77; (with_reducible refine (name_any z.f0 _ (HF.out.2.2.2.2.1 z HMEM.out) ?s1).mono ?_); (case s1 => exact Keys.below HG1.out HC3.out); rw [hnm]; rintro r W4 ⟨rfl, hb⟩; clear b0 b1 b2 b3; replace HZ := bst HZ hb; clear hb; have b0 := BZ.out _ HZ.out 0 _ rfl; have b1 := BZ.out _ HZ.out 1 _ rfl; have b2 := BZ.out _ HZ.out 2 _ rfl; have b3 := BZ.out _ HZ.out 3 _ rfl)
                go_ret
                exact ⟨Lx.ret_int (by rw [HP.out]; unfold checkV; simp [s1, s2, HALL1.out, HNO.out false (by unfold gateB; simp [hnm, hf1, hf2, show ¬ (0 ≤ z.f3) by omega]) rfl]), HB0.out.trans ((HC3.out.trans (HZ.out.mono HC3.out.size)).mono HB0.out.size)⟩
              · have h3' : decide (z.f3 < 0) = false := decide_eq_false h3
                go_wp2_with (go_at_call 77; (with_reducible refine (name_any z.f0 _ (HF.out.2.2.2.2.1 z HMEM.out) ?s1).mono ?_); (case s1 => exact Keys.below HG1.out HC3.out); rw [hnm]; rintro r W4 ⟨rfl, hb⟩; clear b0 b1 b2 b3; replace HZ := bst HZ hb; clear hb; have b0 := BZ.out _ HZ.out 0 _ rfl; have b1 := BZ.out _ HZ.out 1 _ rfl; have b2 := BZ.out _ HZ.out 2 _ rfl; have b3 := BZ.out _ HZ.out 3 _ rfl)
                exact ⟨⟨i + 1, hlt, by go_num, HYES.out true (by unfold gateB; simp [hnm, hf1, hf2, show 0 ≤ z.f3 by omega]) rfl, HC3.out.trans (HZ.out.mono HC3.out.size)⟩, by simp [intOf]; omega⟩
            · by_cases h3 : z.f3 < 0
              · have h3' : decide (z.f3 < 0) = true := decide_eq_true h3
                go_wp2_with (go_at_call 77; (with_reducible refine (name_any z.f0 _ (HF.out.2.2.2.2.1 z HMEM.out) ?s1).mono ?_); (case s1 => exact Keys.below HG1.out HC3.out); rw [hnm]; rintro r W4 ⟨rfl, hb⟩; clear b0 b1 b2 b3; replace HZ := bst HZ hb; clear hb; have b0 := BZ.out _ HZ.out 0 _ rfl; have b1 := BZ.out _ HZ.out 1 _ rfl; have b2 := BZ.out _ HZ.out 2 _ rfl; have b3 := BZ.out _ HZ.out 3 _ rfl)
                go_ret
                exact ⟨Lx.ret_int (by rw [HP.out]; unfold checkV; simp [s1, s2, HALL1.out, HNO.out false (by unfold gateB; simp [hnm, hf1, hf2, show ¬ (0 ≤ z.f3) by omega]) rfl]), HB0.out.trans ((HC3.out.trans (HZ.out.mono HC3.out.size)).mono HB0.out.size)⟩
              · have h3' : decide (z.f3 < 0) = false := decide_eq_false h3
                go_wp2_with (go_at_call 77; (with_reducible refine (name_any z.f0 _ (HF.out.2.2.2.2.1 z HMEM.out) ?s1).mono ?_); (case s1 => exact Keys.below HG1.out HC3.out); rw [hnm]; rintro r W4 ⟨rfl, hb⟩; clear b0 b1 b2 b3; replace HZ := bst HZ hb; clear hb; have b0 := BZ.out _ HZ.out 0 _ rfl; have b1 := BZ.out _ HZ.out 1 _ rfl; have b2 := BZ.out _ HZ.out 2 _ rfl; have b3 := BZ.out _ HZ.out 3 _ rfl)
                exact ⟨⟨i + 1, hlt, by go_num, HYES.out true (by unfold gateB; simp [hnm, hf1, hf2, show 0 ≤ z.f3 by omega]) rfl, HC3.out.trans (HZ.out.mono HC3.out.size)⟩, by simp [intOf]; omega⟩
        · have HC := Lx.Hd.mk hC
          have HALL2 := Lx.Hd.mk (all_full (show i = p.f2.length by omega) hS)
          clear hC hS hi
          have p3 := BC1.out _ HC.out 3 _ rfl
          go_wp2
          clear p3
          go_loopw [71] (fun ts wr => ∃ i : Nat, i ≤ p.f3.length ∧ ts = .int .i64 i ∧ (p.f3.take i).all declB = true ∧ Below W1.heap.size W1 wr) (fun ts _ => p.f3.length - (intOf ts).toNat)
          case atStart => exact ⟨0, Nat.zero_le _, rfl, rfl, HC.out⟩
          case round =>
            clear HC
            obtain ⟨i, hi, rfl, hS, hC⟩ := hrel
            by_cases hlt : i < p.f3.length
            · obtain ⟨ad, E2, x2, E5, x5, rfl, e0, e1, e2, e3, e4, e5, e6, k2, g2, k5, g5⟩ := at_T49 HR3.out i (by omega) (by omega)
              have ex : rd_T49 p.f3 i = p.f3[i] := by unfold rd_T49; rw [Int.toNat_natCast, List.getD_eq_getElem?_getD, List.getElem?_eq_getElem hlt]; rfl
              have hmem := List.getElem_mem hlt
              have hno : ∀ b, declB p.f3[i] = b → b = false → p.f3.all declB = false := fun b h h2 => all_no hlt (h.trans h2)
              have hyes : ∀ b, declB p.f3[i] = b → b = true → (p.f3.take (i + 1)).all declB = true := fun b h h2 => all_take_snoc hlt hS (h.trans h2)
              rw [ex] at e0 e1 e2 e3 e4 e5 e6 k2 g2 k5 g5
              rw [Int.toNat_natCast] at e0 e1 e2 e3 e4 e5 e6
              clear ex hS
              generalize p.f3[i] = z at *
              have a0 := pw_cell_below hC e0; have a1 := pw_cell_below hC e1; have a2 := pw_cell_below hC e2; have a3 := pw_cell_below hC e3; have a4 := pw_cell_below hC e4; have a5 := pw_cell_below hC e5; have a6 := pw_cell_below hC e6
              have HE : Lx.Hd (RowsD W1 z E2 E5 x2 x5) := Lx.Hd.mk ⟨g2, g5, k2, k5⟩
              have HC := Lx.Hd.mk hC
              have HNO := Lx.Hd.mk hno
              have HYES := Lx.Hd.mk hyes
              have HMEM := Lx.Hd.mk hmem
              clear hC hno hyes hmem e0 e1 e2 e3 e4 e5 e6 k2 g2 k5 g5
              go_upto_region 22 with (fail)
              refine name_world fun W3 hW3 => ?_
              have hb3 : W3.heap[wr.heap.size]? = some (.cells #[.int .i64 z.f0, .string z.f1, .slice E2 z.f2.length x2, .int .i64 z.f3, .int .i64 z.f4, .slice E5 z.f5.length x5, .int .i64 z.f6] 49 (0, 0)) := by rw [hW3]; exact World.alloc_heap_new _ _
              have HC3 : Lx.Hd (Below W1.heap.size W1 W3) := Lx.Hd.mk (by rw [hW3]; exact HC.out.trans ((below_alloc (Below.refl _ wr) _).mono HC.out.size))
              have BZ := Lx.Hd.mk (kept_cells hb3)
              have HZ : Lx.Hd (Below W3.heap.size W3 W3) := Lx.Hd.mk (Below.refl _ _)
              clear hW3 hb3 a0 a1 a2 a3 a4 a5 a6
              generalize wr.heap.size = bz at BZ ⊢
              have b0 := BZ.out _ HZ.out 0 _ rfl; have b1 := BZ.out _ HZ.out 1 _ rfl; have b2 := BZ.out _ HZ.out 2 _ rfl; have b3 := BZ.out _ HZ.out 3 _ rfl; have b4 := BZ.out _ HZ.out 4 _ rfl; have b5 := BZ.out _ HZ.out 5 _ rfl; have b6 := BZ.out _ HZ.out 6 _ rfl
              cases hz : declB z
              all_goals
                go_wp2_with (go_at_call 78; (with_reducible refine (decl_any z E2 E5 x2 x5 _ ?s1 ?s2 (HF.out.2.2.2.2.2 z HMEM.out).1 (HF.out.2.2.2.2.2 z HMEM.out).2).mono ?_); (case s1 => exact Keys.below HG1.out HC3.out); (case s2 => exact Kd.C_below HE.out.1 HC3.out); rw [hz]; rintro r W4 ⟨rfl, hb⟩; clear b0 b1 b2 b3 b4 b5 b6; replace HZ := bst HZ hb; clear hb)
              · skip
                go_ret
                exact ⟨Lx.ret_int (by rw [HP.out]; unfold checkV; simp [s1, s2, HALL1.out, HALL2.out, HNO.out _ hz rfl]), HB0.out.trans ((HC3.out.trans (HZ.out.mono HC3.out.size)).mono HB0.out.size)⟩
              · exact ⟨⟨i + 1, hlt, by go_num, HYES.out _ hz rfl, HC3.out.trans (HZ.out.mono HC3.out.size)⟩, by simp [intOf]; omega⟩
            · have HC := Lx.Hd.mk hC
              have HALL3 := Lx.Hd.mk (all_full (show i = p.f3.length by omega) hS)
              clear hC hS hi
              go_wp2
              go_ret
              exact ⟨Lx.ret_int (by rw [HP.out]; unfold checkV; simp [show ¬ p.f0 < 1 by omega, show ¬ 65536 < p.f0 by omega, HALL1.out, HALL2.out, HALL3.out]), HB0.out.trans (HC.out.mono HB0.out.size)⟩
theorem deeps_lt {N : Nat} : ∀ (l : List Nd) (c : Nat), c < N → (∀ x ∈ l, x.deep < N) → l.foldl (fun c x => max c x.deep) c < N
  | [], _, h, _ => h
  | x :: l, c, h, hl => by
    rw [List.foldl_cons]
    exact deeps_lt l _ (by have := hl x (List.mem_cons_self ..); omega) (fun y hy => hl y (List.mem_cons_of_mem _ hy))
theorem deep_fit (f0 : Int) (v1 v2 : Value) (h1 : v1.oneCell' = true) (h2 : v2.oneCell' = true) (A : Option Addr) (c : Nat) (ds : List SD) (w : World) (hC : kD.C w A ds.length ds) (hn : (bodies ds).length * 16 ≤ 140737488355328) (hs : ∀ x ∈ nodes ds, x.deep < 4611686018427387904) :
    Calls Tryd.prog 26 #[.agg #[.int .i64 f0, v1, v2, .slice A ds.length c]] w fun r w' => r = .returned (.int .i64 (deeps (nodes ds))) ∧ Below w.heap.size w w' :=
  deep_prog f0 v1 v2 h1 h2 A c ds w hC hC.2.1 hn (deeps_lt _ 0 (by omega) hs)
end Go.Proofs.YtgkhpecllhiidaaDoor.A
namespace Go.Proofs.YtgkhpecllhiidaaDoor.A
open Go.RowKit Go.Shelf Go.Proofs.YtgkhpecllhiidaaDoor.As Go.Proofs.YtgkhpecllhiidaaDoorW.PrintWords Go.Proofs.YtgkhpecllhiidaaDoorW.PrintLast Go.Proofs.YtgkhpecllhiidaaDoorW.PrintMore
def ast_Check.f (a0_0 : Int) (l0_1 : List SG) (l0_2 : List ST) (l0_3 : List SD) : Option Int := if fitP ⟨a0_0, l0_1, l0_2, l0_3⟩ = true then some (checkP ⟨a0_0, l0_1, l0_2, l0_3⟩) else none
theorem ast_Check.calls (a0_0 : Int) (A0_1 : Option Addr) (c0_1 : Nat) (l0_1 : List SG) (A0_2 : Option Addr) (c0_2 : Nat) (l0_2 : List ST) (A0_3 : Option Addr) (c0_3 : Nat) (l0_3 : List SD) (r : Int) (w : World) (hG : Keys w) (hr0_1 : Kd.C kG w A0_1 l0_1.length l0_1) (hc0_1 : l0_1.length ≤ c0_1) (hr0_2 : Kd.C kT w A0_2 l0_2.length l0_2) (hc0_2 : l0_2.length ≤ c0_2) (hr0_3 : Kd.C kD w A0_3 l0_3.length l0_3) (hc0_3 : l0_3.length ≤ c0_3) (h : ast_Check.f a0_0 l0_1 l0_2 l0_3 = some r) :
    Calls Tryd.prog 34 #[.agg #[.int .i64 a0_0, .slice A0_1 l0_1.length c0_1, .slice A0_2 l0_2.length c0_2, .slice A0_3 l0_3.length c0_3]] w fun e w' => e = .returned (.int .i64 r) ∧ Below w.heap.size w w' := by
  unfold ast_Check.f at h
  split at h
  · rename_i hf
    obtain rfl := Option.some.inj h
    exact check_prog ⟨a0_0, l0_1, l0_2, l0_3⟩ A0_1 A0_2 A0_3 c0_1 c0_2 c0_3 w hG ⟨hr0_1, hr0_2, hr0_3, hc0_1, hc0_2, hc0_3⟩ hf
  · cases h
def ast_Size.f (a0_0 : Int) (l0_1 : List SG) (l0_2 : List ST) (l0_3 : List SD) : Option Int := if fitP ⟨a0_0, l0_1, l0_2, l0_3⟩ = true then some ((sizes (nodes l0_3) : Int)) else none
theorem ast_Size.calls (a0_0 : Int) (A0_1 : Option Addr) (c0_1 : Nat) (l0_1 : List SG) (A0_2 : Option Addr) (c0_2 : Nat) (l0_2 : List ST) (A0_3 : Option Addr) (c0_3 : Nat) (l0_3 : List SD) (r : Int) (w : World) (hr0_1 : Kd.C kG w A0_1 l0_1.length l0_1) (hc0_1 : l0_1.length ≤ c0_1) (hr0_2 : Kd.C kT w A0_2 l0_2.length l0_2) (hc0_2 : l0_2.length ≤ c0_2) (hr0_3 : Kd.C kD w A0_3 l0_3.length l0_3) (hc0_3 : l0_3.length ≤ c0_3) (h : ast_Size.f a0_0 l0_1 l0_2 l0_3 = some r) :
    Calls Tryd.prog 27 #[.agg #[.int .i64 a0_0, .slice A0_1 l0_1.length c0_1, .slice A0_2 l0_2.length c0_2, .slice A0_3 l0_3.length c0_3]] w fun e w' => e = .returned (.int .i64 r) ∧ Below w.heap.size w w' := by
  unfold ast_Size.f at h
  split at h
  · rename_i hf
    obtain rfl := Option.some.inj h
    have hq := fitP_parts hf
    exact size_prog a0_0 _ _ rfl rfl A0_3 c0_3 l0_3 w hr0_3 hr0_3.2.1 hq.1 hq.2.1
  · cases h
def ast_Deep.f (a0_0 : Int) (l0_1 : List SG) (l0_2 : List ST) (l0_3 : List SD) : Option Int := if fitP ⟨a0_0, l0_1, l0_2, l0_3⟩ = true then some ((deeps (nodes l0_3) : Int)) else none
theorem ast_Deep.calls (a0_0 : Int) (A0_1 : Option Addr) (c0_1 : Nat) (l0_1 : List SG) (A0_2 : Option Addr) (c0_2 : Nat) (l0_2 : List ST) (A0_3 : Option Addr) (c0_3 : Nat) (l0_3 : List SD) (r : Int) (w : World) (hr0_1 : Kd.C kG w A0_1 l0_1.length l0_1) (hc0_1 : l0_1.length ≤ c0_1) (hr0_2 : Kd.C kT w A0_2 l0_2.length l0_2) (hc0_2 : l0_2.length ≤ c0_2) (hr0_3 : Kd.C kD w A0_3 l0_3.length l0_3) (hc0_3 : l0_3.length ≤ c0_3) (h : ast_Deep.f a0_0 l0_1 l0_2 l0_3 = some r) :
    Calls Tryd.prog 26 #[.agg #[.int .i64 a0_0, .slice A0_1 l0_1.length c0_1, .slice A0_2 l0_2.length c0_2, .slice A0_3 l0_3.length c0_3]] w fun e w' => e = .returned (.int .i64 r) ∧ Below w.heap.size w w' := by
  unfold ast_Deep.f at h
  split at h
  · rename_i hf
    obtain rfl := Option.some.inj h
    have hq := fitP_parts hf
    exact deep_fit a0_0 _ _ rfl rfl A0_3 c0_3 l0_3 w hr0_3 hq.1 (fun x hx => (fit_parts (hq.2.2.1 x hx)).2.1)
  · cases h
def ast_Same.f (a0_0 : Int) (l0_1 : List SG) (l0_2 : List ST) (l0_3 : List SD) (a1_0 : Int) (l1_1 : List SG) (l1_2 : List ST) (l1_3 : List SD) : Option Bool := if True then some (sameP ⟨a0_0, l0_1, l0_2, l0_3⟩ ⟨a1_0, l1_1, l1_2, l1_3⟩) else none
theorem ast_Same.calls (a0_0 : Int) (A0_1 : Option Addr) (c0_1 : Nat) (l0_1 : List SG) (A0_2 : Option Addr) (c0_2 : Nat) (l0_2 : List ST) (A0_3 : Option Addr) (c0_3 : Nat) (l0_3 : List SD) (a1_0 : Int) (A1_1 : Option Addr) (c1_1 : Nat) (l1_1 : List SG) (A1_2 : Option Addr) (c1_2 : Nat) (l1_2 : List ST) (A1_3 : Option Addr) (c1_3 : Nat) (l1_3 : List SD) (r : Bool) (w : World) (hr0_1 : Kd.C kG w A0_1 l0_1.length l0_1) (hc0_1 : l0_1.length ≤ c0_1) (hr0_2 : Kd.C kT w A0_2 l0_2.length l0_2) (hc0_2 : l0_2.length ≤ c0_2) (hr0_3 : Kd.C kD w A0_3 l0_3.length l0_3) (hc0_3 : l0_3.length ≤ c0_3) (hr1_1 : Kd.C kG w A1_1 l1_1.length l1_1) (hc1_1 : l1_1.length ≤ c1_1) (hr1_2 : Kd.C kT w A1_2 l1_2.length l1_2) (hc1_2 : l1_2.length ≤ c1_2) (hr1_3 : Kd.C kD w A1_3 l1_3.length l1_3) (hc1_3 : l1_3.length ≤ c1_3) (h : ast_Same.f a0_0 l0_1 l0_2 l0_3 a1_0 l1_1 l1_2 l1_3 = some r) :
    Calls Tryd.prog 33 #[.agg #[.int .i64 a0_0, .slice A0_1 l0_1.length c0_1, .slice A0_2 l0_2.length c0_2, .slice A0_3 l0_3.length c0_3], .agg #[.int .i64 a1_0, .slice A1_1 l1_1.length c1_1, .slice A1_2 l1_2.length c1_2, .slice A1_3 l1_3.length c1_3]] w fun e w' => e = .returned (.bool r) ∧ Below w.heap.size w w' := by
  unfold ast_Same.f at h
  split at h
  · rename_i hf
    obtain rfl := Option.some.inj h
    exact sameP_any ⟨a0_0, l0_1, l0_2, l0_3⟩ ⟨a1_0, l1_1, l1_2, l1_3⟩ A0_1 A0_2 A0_3 c0_1 c0_2 c0_3 A1_1 A1_2 A1_3 c1_1 c1_2 c1_3 w ⟨hr0_1, hr0_2, hr0_3, hc0_1, hc0_2, hc0_3⟩ ⟨hr1_1, hr1_2, hr1_3, hc1_1, hc1_2, hc1_3⟩
  · cases h
def ast_SameExpr.f (a0_0 : Int) (a0_1 : Int) (a0_2 : Int) (a0_3 : Int) (a0_4 : ByteArray) (l0_5 : List SE) (a1_0 : Int) (a1_1 : Int) (a1_2 : Int) (a1_3 : Int) (a1_4 : ByteArray) (l1_5 : List SE) : Option Bool := if True then some (sameE ⟨a0_0, a0_1, a0_2, a0_3, a0_4, l0_5⟩ ⟨a1_0, a1_1, a1_2, a1_3, a1_4, l1_5⟩) else none
theorem ast_SameExpr.calls (a0_0 : Int) (a0_1 : Int) (a0_2 : Int) (a0_3 : Int) (a0_4 : ByteArray) (A0_5 : Option Addr) (c0_5 : Nat) (l0_5 : List SE) (a1_0 : Int) (a1_1 : Int) (a1_2 : Int) (a1_3 : Int) (a1_4 : ByteArray) (A1_5 : Option Addr) (c1_5 : Nat) (l1_5 : List SE) (r : Bool) (w : World) (hr0_5 : Kd.C kE w A0_5 l0_5.length l0_5) (hc0_5 : l0_5.length ≤ c0_5) (hr1_5 : Kd.C kE w A1_5 l1_5.length l1_5) (hc1_5 : l1_5.length ≤ c1_5) (h : ast_SameExpr.f a0_0 a0_1 a0_2 a0_3 a0_4 l0_5 a1_0 a1_1 a1_2 a1_3 a1_4 l1_5 = some r) :
    Calls Tryd.prog 36 #[.agg #[.int .i64 a0_0, .int .i64 a0_1, .int .i64 a0_2, .int .u32 a0_3, .string a0_4, .slice A0_5 l0_5.length c0_5], .agg #[.int .i64 a1_0, .int .i64 a1_1, .int .i64 a1_2, .int .u32 a1_3, .string a1_4, .slice A1_5 l1_5.length c1_5]] w fun e w' => e = .returned (.bool r) ∧ Below w.heap.size w w' := by
  unfold ast_SameExpr.f at h
  split at h
  · rename_i hf
    obtain rfl := Option.some.inj h
    exact sameAt_any (deepE ⟨a0_0, a0_1, a0_2, a0_3, a0_4, l0_5⟩) ⟨a0_0, a0_1, a0_2, a0_3, a0_4, l0_5⟩ (Nat.le_refl _) ⟨a1_0, a1_1, a1_2, a1_3, a1_4, l1_5⟩ A0_5 c0_5 A1_5 c1_5 w ⟨hr0_5, hc0_5⟩ ⟨hr1_5, hc1_5⟩
  · cases h
def ast_SameStmt.f (a0_0 : Int) (a0_1 : Int) (a0_2 : Int) (a0_3 : Int) (a0_4 : ByteArray) (l0_5 : List ByteArray) (l0_6 : List SE) (l0_7 : List SE) (l0_8 : List SS) (l0_9 : List SS) (a1_0 : Int) (a1_1 : Int) (a1_2 : Int) (a1_3 : Int) (a1_4 : ByteArray) (l1_5 : List ByteArray) (l1_6 : List SE) (l1_7 : List SE) (l1_8 : List SS) (l1_9 : List SS) : Option Bool := if True then some (sameS ⟨a0_0, a0_1, a0_2, a0_3, a0_4, l0_5, l0_6, l0_7, l0_8, l0_9⟩ ⟨a1_0, a1_1, a1_2, a1_3, a1_4, l1_5, l1_6, l1_7, l1_8, l1_9⟩) else none
theorem ast_SameStmt.calls (a0_0 : Int) (a0_1 : Int) (a0_2 : Int) (a0_3 : Int) (a0_4 : ByteArray) (A0_5 : Option Addr) (c0_5 : Nat) (l0_5 : List ByteArray) (A0_6 : Option Addr) (c0_6 : Nat) (l0_6 : List SE) (A0_7 : Option Addr) (c0_7 : Nat) (l0_7 : List SE) (A0_8 : Option Addr) (c0_8 : Nat) (l0_8 : List SS) (A0_9 : Option Addr) (c0_9 : Nat) (l0_9 : List SS) (a1_0 : Int) (a1_1 : Int) (a1_2 : Int) (a1_3 : Int) (a1_4 : ByteArray) (A1_5 : Option Addr) (c1_5 : Nat) (l1_5 : List ByteArray) (A1_6 : Option Addr) (c1_6 : Nat) (l1_6 : List SE) (A1_7 : Option Addr) (c1_7 : Nat) (l1_7 : List SE) (A1_8 : Option Addr) (c1_8 : Nat) (l1_8 : List SS) (A1_9 : Option Addr) (c1_9 : Nat) (l1_9 : List SS) (r : Bool) (w : World) (hr0_5 : Kd.C Kd.string w A0_5 l0_5.length l0_5) (hc0_5 : l0_5.length ≤ c0_5) (hr0_6 : Kd.C kE w A0_6 l0_6.length l0_6) (hc0_6 : l0_6.length ≤ c0_6) (hr0_7 : Kd.C kE w A0_7 l0_7.length l0_7) (hc0_7 : l0_7.length ≤ c0_7) (hr0_8 : Kd.C kS w A0_8 l0_8.length l0_8) (hc0_8 : l0_8.length ≤ c0_8) (hr0_9 : Kd.C kS w A0_9 l0_9.length l0_9) (hc0_9 : l0_9.length ≤ c0_9) (hr1_5 : Kd.C Kd.string w A1_5 l1_5.length l1_5) (hc1_5 : l1_5.length ≤ c1_5) (hr1_6 : Kd.C kE w A1_6 l1_6.length l1_6) (hc1_6 : l1_6.length ≤ c1_6) (hr1_7 : Kd.C kE w A1_7 l1_7.length l1_7) (hc1_7 : l1_7.length ≤ c1_7) (hr1_8 : Kd.C kS w A1_8 l1_8.length l1_8) (hc1_8 : l1_8.length ≤ c1_8) (hr1_9 : Kd.C kS w A1_9 l1_9.length l1_9) (hc1_9 : l1_9.length ≤ c1_9) (h : ast_SameStmt.f a0_0 a0_1 a0_2 a0_3 a0_4 l0_5 l0_6 l0_7 l0_8 l0_9 a1_0 a1_1 a1_2 a1_3 a1_4 l1_5 l1_6 l1_7 l1_8 l1_9 = some r) :
    Calls Tryd.prog 46 #[.agg #[.int .i64 a0_0, .int .i64 a0_1, .int .i64 a0_2, .int .i64 a0_3, .string a0_4, .slice A0_5 l0_5.length c0_5, .slice A0_6 l0_6.length c0_6, .slice A0_7 l0_7.length c0_7, .slice A0_8 l0_8.length c0_8, .slice A0_9 l0_9.length c0_9], .agg #[.int .i64 a1_0, .int .i64 a1_1, .int .i64 a1_2, .int .i64 a1_3, .string a1_4, .slice A1_5 l1_5.length c1_5, .slice A1_6 l1_6.length c1_6, .slice A1_7 l1_7.length c1_7, .slice A1_8 l1_8.length c1_8, .slice A1_9 l1_9.length c1_9]] w fun e w' => e = .returned (.bool r) ∧ Below w.heap.size w w' := by
  unfold ast_SameStmt.f at h
  split at h
  · rename_i hf
    obtain rfl := Option.some.inj h
    exact sameAtS_any (deepS ⟨a0_0, a0_1, a0_2, a0_3, a0_4, l0_5, l0_6, l0_7, l0_8, l0_9⟩) ⟨a0_0, a0_1, a0_2, a0_3, a0_4, l0_5, l0_6, l0_7, l0_8, l0_9⟩ (Nat.le_refl _) ⟨a1_0, a1_1, a1_2, a1_3, a1_4, l1_5, l1_6, l1_7, l1_8, l1_9⟩ A0_5 A0_6 A0_7 A0_8 A0_9 c0_5 c0_6 c0_7 c0_8 c0_9 A1_5 A1_6 A1_7 A1_8 A1_9 c1_5 c1_6 c1_7 c1_8 c1_9 w ⟨hr0_5, hr0_6, hr0_7, hr0_8, hr0_9, hc0_5, hc0_6, hc0_7, hc0_8, hc0_9⟩ ⟨hr1_5, hr1_6, hr1_7, hr1_8, hr1_9, hc1_5, hc1_6, hc1_7, hc1_8, hc1_9⟩
  · cases h
end Go.Proofs.YtgkhpecllhiidaaDoor.A
