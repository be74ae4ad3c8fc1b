/- The reference of chapter 6: stmt. -/
import Derived.Test.YtgkhpecllhiidaaDoorZBb
import Derived.Test.YtgkhpecllhiidaaDoorZDe
set_option linter.unusedVariables false
set_option linter.unusedSimpArgs false
namespace Go.Proofs.YtgkhpecllhiidaaDoor.A
open Go.RowKit Go.Shelf Go.Proofs.YtgkhpecllhiidaaDoor.As Go.Proofs.YtgkhpecllhiidaaDoorW.PrintWords Go.Proofs.YtgkhpecllhiidaaDoorW.PrintLast Go.Proofs.YtgkhpecllhiidaaDoorW.PrintMore
theorem k8_sets (s : SS) {h0 h1 h2 h3 h4 h5 h6 h7 is : Bool} (h : K8 s h0 h1 h2 h3 h4 h5 h6 h7 is) : (h0 = true ∧ h1 = false ∧ h2 = true ∧ h3 = false) ∨ (h0 = false ∧ h1 = false ∧ h2 = true ∧ h3 = false) ∨ (h0 = false ∧ h1 = false ∧ h2 = false ∧ h3 = false) ∨ (h0 = false ∧ h1 = true ∧ h2 = false ∧ h3 = false) ∨ (h0 = false ∧ h1 = false ∧ h2 = false ∧ h3 = true) := by
  cases h <;> decide
theorem k8_sets2 (s : SS) {h0 h1 h2 h3 h4 h5 h6 h7 is : Bool} (h : K8 s h0 h1 h2 h3 h4 h5 h6 h7 is) : (h4 = false ∧ h5 = true ∧ h6 = false ∧ h7 = false) ∨ (h4 = true ∧ h5 = true ∧ h6 = false ∧ h7 = false) ∨ (h4 = false ∧ h5 = true ∧ h6 = true ∧ h7 = true) ∨ (h4 = false ∧ h5 = true ∧ h6 = true ∧ h7 = false) ∨ (h4 = false ∧ h5 = false ∧ h6 = false ∧ h7 = false) ∨ (h4 = false ∧ h5 = false ∧ h6 = true ∧ h7 = false) := by
  cases h <;> decide
theorem take_all {α : Type} {f : α → Bool} {l : List α} {i : Nat} (h : (l.take i).all f = true) (hi : i = l.length) : l.all f = true := by rw [hi, List.take_length] at h; exact h
theorem take_next {α : Type} {f : α → Bool} {l : List α} {i : Nat} {x : α} (h : (l.take i).all f = true) (ht : l.take (i + 1) = l.take i ++ [x]) (hx : f x = true) : (l.take (i + 1)).all f = true := by rw [ht, List.all_append, h]; simp [hx]
theorem all_not {α : Type} {f : α → Bool} {l : List α} {x : α} (hm : x ∈ l) (hx : f x = false) : l.all f = false := by rw [List.all_eq_false]; exact ⟨x, hm, by rw [hx]; simp⟩
def restS (s : SS) : Bool := rightEs exprB s.f6 && rightEs exprB s.f7 && rightSs exprB stmtB s.f8 && rightSs exprB stmtB s.f9
set_option maxRecDepth 100000 in
set_option maxHeartbeats 16000000 in
theorem refStmt_step (s : SS) (A5 A6 A7 A8 A9 : Option Addr) (c5 c6 c7 c8 c9 : Nat) (w : World) (hR : RowsS w s A5 A6 A7 A8 A9 c5 c6 c7 c8 c9) (hs4 : s.f4.size ≤ 140737488351232) (hz5 : ∀ x ∈ s.f5, x.size ≤ 140737488351232) (i6 : ∀ x ∈ s.f6, RefAt x) (i7 : ∀ x ∈ s.f7, RefAt x) (i8 : ∀ x ∈ s.f8, StAtR x) (i9 : ∀ x ∈ s.f9, StAtR x) :
    Calls Tryd.prog 88 #[.agg #[.int .i64 s.f0, .int .i64 s.f1, .int .i64 s.f2, .int .i64 s.f3, .string s.f4, .slice A5 s.f5.length c5, .slice A6 s.f6.length c6, .slice A7 s.f7.length c7, .slice A8 s.f8.length c8, .slice A9 s.f9.length c9]] w fun r w' => r = .returned (.bool (stmtB s && restS s)) ∧ Below w.heap.size w w' := by
  have n5 : s.f5.length ≤ 9223372036854775807 := hR.1.2.1
  have n6 : s.f6.length ≤ 9223372036854775807 := hR.2.1.2.1
  have n7 : s.f7.length ≤ 9223372036854775807 := hR.2.2.1.2.1
  have HR0 := Lx.Hd.mk hR
  have HZ5 := Lx.Hd.mk hz5
  have I6 := Lx.Hd.mk i6
  have I7 := Lx.Hd.mk i7
  have I8 := Lx.Hd.mk i8
  have I9 := Lx.Hd.mk i9
  clear hR hz5 i6 i7 i8 i9
  go_enter Tryd.func88, Tryd.ntmps88
  go_upto_region 1 with (fail)
  refine name_world fun W1 hW1 => ?_
  have HB1 : Lx.Hd (Below w.heap.size w W1) := Lx.Hd.mk (by rw [hW1]; exact below_alloc (Below.refl _ _) _)
  have hb1 : W1.heap[w.heap.size]? = some (.cells #[.int .i64 s.f0, .int .i64 s.f1, .int .i64 s.f2, .int .i64 s.f3, .string s.f4, .slice A5 s.f5.length c5, .slice A6 s.f6.length c6, .slice A7 s.f7.length c7, .slice A8 s.f8.length c8, .slice A9 s.f9.length c9] 38 (0, 0)) := by rw [hW1]; exact World.alloc_heap_new w _
  clear hW1
  generalize w.heap.size = bx at hb1 ⊢
  have BC0 := Lx.Hd.mk (bkS_of hb1)
  have Hb1 := Lx.Hd.mk hb1
  clear hb1
  have HRk : Lx.Hd (RowsS W1 s A5 A6 A7 A8 A9 c5 c6 c7 c8 c9) := Lx.Hd.mk (RowsS.below HR0.out HB1.out)
  obtain ⟨p0, p1, p2, p3, p4, p5, p6, p7, p8, p9⟩ := BC0.out _ (Below.refl _ _)
  go_upto_region 2 with (first | (go_at_call 116; (with_reducible refine (refKinds s A5 A6 A7 A8 A9 c5 c6 c7 c8 c9 _ HRk.out).mono ?_); rintro r W3 ⟨h0, h1, h2, h3, h4, h5, h6, h7, is, rfl, HK, hb⟩; have HB3 := Lx.Hd.mk hb; clear hb p0 p1 p2 p3 p4 p5 p6 p7 p8 p9; obtain ⟨p0, p1, p2, p3, p4, p5, p6, p7, p8, p9⟩ := BC0.out _ HB3.out) | fail)
  refine name_world fun W4 hW4 => ?_
  have hb2 : FB W4 W3.heap.size h0 h1 h2 h3 h4 h5 h6 h7 := by rw [hW4]; exact World.alloc_heap_new W3 _
  have HB4 : Lx.Hd (Below W1.heap.size W1 W4) := Lx.Hd.mk (by rw [hW4]; exact below_alloc HB3.out _)
  have hb1 : W4.heap[bx]? = some (.cells #[.int .i64 s.f0, .int .i64 s.f1, .int .i64 s.f2, .int .i64 s.f3, .string s.f4, .slice A5 s.f5.length c5, .slice A6 s.f6.length c6, .slice A7 s.f7.length c7, .slice A8 s.f8.length c8, .slice A9 s.f9.length c9] 38 (0, 0)) := heap_kept HB4.out Hb1.out
  clear hW4
  generalize W3.heap.size = b3 at hb2 ⊢
  have BC1 := Lx.Hd.mk (bkS_of hb1)
  have BC2 : Lx.Hd (∀ W', Below W4.heap.size W4 W' → W'.cell? ⟨b3, 0, none⟩ = some (.bool h0) ∧ W'.cell? ⟨b3, 1, none⟩ = some (.bool h1) ∧ W'.cell? ⟨b3, 2, none⟩ = some (.bool h2) ∧ W'.cell? ⟨b3, 3, none⟩ = some (.bool h3) ∧ W'.cell? ⟨b3, 4, none⟩ = some (.bool h4) ∧ W'.cell? ⟨b3, 5, none⟩ = some (.bool h5) ∧ W'.cell? ⟨b3, 6, none⟩ = some (.bool h6) ∧ W'.cell? ⟨b3, 7, none⟩ = some (.bool h7)) := Lx.Hd.mk fun W' hb => by
    have k := kept_cells hb2 W' hb
    exact ⟨k 0 _ rfl, k 1 _ rfl, k 2 _ rfl, k 3 _ rfl, k 4 _ rfl, k 5 _ rfl, k 6 _ rfl, k 7 _ rfl⟩
  have HB0 : Lx.Hd (Below w.heap.size w W4) := Lx.Hd.mk (below_step HB1.out HB4.out)
  have HR : Lx.Hd (RowsS W4 s A5 A6 A7 A8 A9 c5 c6 c7 c8 c9) := Lx.Hd.mk (RowsS.below HR0.out HB0.out)
  have HB : Lx.Hd (Below W4.heap.size W4 W4) := Lx.Hd.mk (Below.refl _ _)
  clear hb1 hb2 BC0 Hb1 HRk HB3 HB4 HB1 HR0 p0 p1 p2 p3 p4 p5 p6 p7 p8 p9
  obtain ⟨p0, p1, p2, p3, p4, p5, p6, p7, p8, p9⟩ := BC1.out _ HB.out
  obtain ⟨q0, q1, q2, q3, q4, q5, q6, q7⟩ := BC2.out _ HB.out
  go_cut [0, 68] (fun v0 v68 wc => v68 = .bool (bad1 s h0 h1 h2 h3 is) ∧ Lx.Hd (Below W4.heap.size W4 wc))
  case first =>
    rename_i Kq hKq Jq Kq1 hJq hKq1
    clear hKq
    cases is
    · go_wp2
      go_meet
      case rel => exact ⟨congrArg Value.bool (by simp [bad1]), HB⟩
    by_cases g1 : s.f1 < 0
    · go_wp2
      go_meet
      case rel => exact ⟨congrArg Value.bool (by simp [bad1, g1]), HB⟩
    rcases k8_sets s HK.out with ⟨rfl, rfl, rfl, rfl⟩ | ⟨rfl, rfl, rfl, rfl⟩ | ⟨rfl, rfl, rfl, rfl⟩ | ⟨rfl, rfl, rfl, rfl⟩ | ⟨rfl, rfl, rfl, rfl⟩
    · as_aux_lemma =>
      by_cases g3 : s.f3 = 0
      rotate_left
      · go_wp2_with (fail)
        go_meet
        case rel => exact ⟨congrArg Value.bool (by simp [bad1, g3]), HB⟩
      cases g4 : s.f4.toList.isEmpty
      rotate_left
      · go_wp2_with (fail)
        go_meet
        case rel => exact ⟨congrArg Value.bool (by simp [bad1, g4]), HB⟩
      cases g5 : nameB s.f4
      · go_wp2_with (first | (go_at_call 82; (with_reducible refine (refWord s.f4 _ hs4).mono ?_); rw [g5]; rintro r W5 ⟨rfl, hb⟩; replace HB := bst HB hb; clear hb; clear p0 p1 p2 p3 p4 p5 p6 p7 p8 p9 q0 q1 q2 q3 q4 q5 q6 q7; obtain ⟨p0, p1, p2, p3, p4, p5, p6, p7, p8, p9⟩ := BC1.out _ HB.out; obtain ⟨q0, q1, q2, q3, q4, q5, q6, q7⟩ := BC2.out _ HB.out) | fail)
        go_meet
        case rel => exact ⟨congrArg Value.bool (by simp [bad1, g4, g5]), HB⟩
      by_cases g6 : 0 < s.f5.length
      · go_wp2_with (first | (go_at_call 82; (with_reducible refine (refWord s.f4 _ hs4).mono ?_); rw [g5]; rintro r W5 ⟨rfl, hb⟩; replace HB := bst HB hb; clear hb; clear p0 p1 p2 p3 p4 p5 p6 p7 p8 p9 q0 q1 q2 q3 q4 q5 q6 q7; obtain ⟨p0, p1, p2, p3, p4, p5, p6, p7, p8, p9⟩ := BC1.out _ HB.out; obtain ⟨q0, q1, q2, q3, q4, q5, q6, q7⟩ := BC2.out _ HB.out) | fail)
        go_meet
        case rel => exact ⟨congrArg Value.bool (by simp [bad1, g6]), HB⟩
      go_wp2_with (first | (go_at_call 82; (with_reducible refine (refWord s.f4 _ hs4).mono ?_); rw [g5]; rintro r W5 ⟨rfl, hb⟩; replace HB := bst HB hb; clear hb; clear p0 p1 p2 p3 p4 p5 p6 p7 p8 p9 q0 q1 q2 q3 q4 q5 q6 q7; obtain ⟨p0, p1, p2, p3, p4, p5, p6, p7, p8, p9⟩ := BC1.out _ HB.out; obtain ⟨q0, q1, q2, q3, q4, q5, q6, q7⟩ := BC2.out _ HB.out) | fail)
      go_meet
      case rel => exact ⟨congrArg Value.bool (by simp [bad1, g1, g3, g4, g5, g6]), HB⟩
    · as_aux_lemma =>
      by_cases g2 : s.f2 = 0
      rotate_left
      · go_wp2_with (fail)
        go_meet
        case rel => exact ⟨congrArg Value.bool (by simp [bad1, g2]), HB⟩
      by_cases g3 : s.f3 = 0
      rotate_left
      · go_wp2_with (fail)
        go_meet
        case rel => exact ⟨congrArg Value.bool (by simp [bad1, g3]), HB⟩
      cases g4 : s.f4.toList.isEmpty
      rotate_left
      · go_wp2_with (fail)
        go_meet
        case rel => exact ⟨congrArg Value.bool (by simp [bad1, g4]), HB⟩
      cases g5 : nameB s.f4
      · go_wp2_with (first | (go_at_call 82; (with_reducible refine (refWord s.f4 _ hs4).mono ?_); rw [g5]; rintro r W5 ⟨rfl, hb⟩; replace HB := bst HB hb; clear hb; clear p0 p1 p2 p3 p4 p5 p6 p7 p8 p9 q0 q1 q2 q3 q4 q5 q6 q7; obtain ⟨p0, p1, p2, p3, p4, p5, p6, p7, p8, p9⟩ := BC1.out _ HB.out; obtain ⟨q0, q1, q2, q3, q4, q5, q6, q7⟩ := BC2.out _ HB.out) | fail)
        go_meet
        case rel => exact ⟨congrArg Value.bool (by simp [bad1, g4, g5]), HB⟩
      by_cases g6 : 0 < s.f5.length
      · go_wp2_with (first | (go_at_call 82; (with_reducible refine (refWord s.f4 _ hs4).mono ?_); rw [g5]; rintro r W5 ⟨rfl, hb⟩; replace HB := bst HB hb; clear hb; clear p0 p1 p2 p3 p4 p5 p6 p7 p8 p9 q0 q1 q2 q3 q4 q5 q6 q7; obtain ⟨p0, p1, p2, p3, p4, p5, p6, p7, p8, p9⟩ := BC1.out _ HB.out; obtain ⟨q0, q1, q2, q3, q4, q5, q6, q7⟩ := BC2.out _ HB.out) | fail)
        go_meet
        case rel => exact ⟨congrArg Value.bool (by simp [bad1, g6]), HB⟩
      go_wp2_with (first | (go_at_call 82; (with_reducible refine (refWord s.f4 _ hs4).mono ?_); rw [g5]; rintro r W5 ⟨rfl, hb⟩; replace HB := bst HB hb; clear hb; clear p0 p1 p2 p3 p4 p5 p6 p7 p8 p9 q0 q1 q2 q3 q4 q5 q6 q7; obtain ⟨p0, p1, p2, p3, p4, p5, p6, p7, p8, p9⟩ := BC1.out _ HB.out; obtain ⟨q0, q1, q2, q3, q4, q5, q6, q7⟩ := BC2.out _ HB.out) | fail)
      go_meet
      case rel => exact ⟨congrArg Value.bool (by simp [bad1, g1, g2, g3, g4, g5, g6]), HB⟩
    · as_aux_lemma =>
      by_cases g2 : s.f2 = 0
      rotate_left
      · go_wp2_with (fail)
        go_meet
        case rel => exact ⟨congrArg Value.bool (by simp [bad1, g2]), HB⟩
      by_cases g3 : s.f3 = 0
      rotate_left
      · go_wp2_with (fail)
        go_meet
        case rel => exact ⟨congrArg Value.bool (by simp [bad1, g3]), HB⟩
      cases g4 : s.f4.toList.isEmpty
      · go_wp2_with (fail)
        go_meet
        case rel => exact ⟨congrArg Value.bool (by simp [bad1, g4]), HB⟩
      by_cases g6 : 0 < s.f5.length
      · go_wp2_with (fail)
        go_meet
        case rel => exact ⟨congrArg Value.bool (by simp [bad1, g6]), HB⟩
      go_wp2_with (fail)
      go_meet
      case rel => exact ⟨congrArg Value.bool (by simp [bad1, g1, g2, g3, g4, g6]), HB⟩
    · as_aux_lemma =>
      by_cases g2 : s.f2 = 0
      rotate_left
      · go_wp2_with (fail)
        go_meet
        case rel => exact ⟨congrArg Value.bool (by simp [bad1, g2]), HB⟩
      cases g4 : s.f4.toList.isEmpty
      · go_wp2_with (fail)
        go_meet
        case rel => exact ⟨congrArg Value.bool (by simp [bad1, g4]), HB⟩
      by_cases g6 : 0 < s.f5.length
      · go_wp2_with (fail)
        go_meet
        case rel => exact ⟨congrArg Value.bool (by simp [bad1, g6]), HB⟩
      go_wp2_with (fail)
      go_meet
      case rel => exact ⟨congrArg Value.bool (by simp [bad1, g1, g2, g4, g6]), HB⟩
    · as_aux_lemma =>
      by_cases g2 : s.f2 = 0
      rotate_left
      · go_wp2_with (fail)
        go_meet
        case rel => exact ⟨congrArg Value.bool (by simp [bad1, g2]), HB⟩
      by_cases g3 : s.f3 = 0
      rotate_left
      · go_wp2_with (fail)
        go_meet
        case rel => exact ⟨congrArg Value.bool (by simp [bad1, g3]), HB⟩
      cases g4 : s.f4.toList.isEmpty
      · go_wp2_with (fail)
        go_meet
        case rel => exact ⟨congrArg Value.bool (by simp [bad1, g4]), HB⟩
      go_wp2_with (fail)
      go_meet
      case rel => exact ⟨congrArg Value.bool (by simp [bad1, g1, g2, g3, g4]), HB⟩
  case rest =>
    obtain ⟨rfl, HBc⟩ := hcut
    clear HB p0 p1 p2 p3 p4 p5 p6 p7 p8 p9 q0 q1 q2 q3 q4 q5 q6 q7
    have HB := HBc
    clear HBc
    obtain ⟨p0, p1, p2, p3, p4, p5, p6, p7, p8, p9⟩ := BC1.out _ HB.out
    obtain ⟨q0, q1, q2, q3, q4, q5, q6, q7⟩ := BC2.out _ HB.out
    cases hb1 : bad1 s h0 h1 h2 h3 is
    rotate_left
    · go_wp2
      go_ret
      exact ⟨by rw [← k8_stmt s HK.out, hb1]; rfl, below_step HB0.out HB.out⟩
    have HF1 := Lx.Hd.mk hb1
    clear hb1
    go_upto_block 0 with (fail)
    go_cut [2, 5] (fun v2 v5 wc => Lx.Hd (s.f5.all nameB = true) ∧ Lx.Hd (Below W4.heap.size W4 wc))
    case first =>
      rename_i Kq hKq Jq Kq1 hJq hKq1
      clear hKq
      go_wp2
      go_loopw [5] (fun t5 wr => ∃ i : Nat, i ≤ s.f5.length ∧ t5 = .int .i64 i ∧ Lx.Hd ((s.f5.take i).all nameB = true) ∧ Lx.Hd (Below W4.heap.size W4 wr)) (fun t5 _ => s.f5.length - (intOf t5).toNat)
      case atStart => exact ⟨0, Nat.zero_le _, rfl, Lx.Hd.mk rfl, HB⟩
      case round =>
        clear p0 p1 p2 p3 p4 p5 p6 p7 p8 p9 q0 q1 q2 q3 q4 q5 q6 q7 HB
        obtain ⟨i, hi, rfl, HAL, HB⟩ := hrel
        obtain ⟨p0, p1, p2, p3, p4, p5, p6, p7, p8, p9⟩ := BC1.out _ HB.out; obtain ⟨q0, q1, q2, q3, q4, q5, q6, q7⟩ := BC2.out _ HB.out
        by_cases hlt : i < s.f5.length
        · obtain ⟨ad, rfl, q⟩ := Kd.at_string (show Kd.string.C W4 A5 s.f5.length s.f5 from HR.out.1) (i : Int) (by omega) (by omega)
          have hx : rdOf ByteArray.empty s.f5 (i : Int) = s.f5[i] := by unfold rdOf; rw [Int.toNat_natCast, List.getD_eq_getElem?_getD, List.getElem?_eq_getElem hlt]; rfl
          rw [hx, Int.toNat_natCast] at q
          have HM := Lx.Hd.mk (List.getElem_mem hlt)
          have HT : Lx.Hd (s.f5.take (i + 1) = s.f5.take i ++ [s.f5[i]]) := Lx.Hd.mk (by rw [List.take_succ_eq_append_getElem hlt])
          generalize s.f5[i] = x at *
          clear hx
          have r := pw_cell_below HB.out q
          clear q
          cases hx : nameB x
          all_goals
            go_wp2_with (first | (go_at_call 82; (with_reducible refine (refWord x _ (HZ5.out x HM.out)).mono ?_); rw [hx]; rintro r W5 ⟨rfl, hb⟩; replace HB := bst HB hb; clear hb) | fail)
          · go_ret
            exact ⟨by rw [← k8_stmt s HK.out, all_not HM.out hx, Bool.false_and, Bool.and_false]; rfl, below_step HB0.out HB.out⟩
          · exact ⟨⟨i + 1, hlt, by go_num, Lx.Hd.mk (take_next HAL.out HT.out hx), HB⟩, by simp [intOf]; omega⟩
        have HN := Lx.Hd.mk (take_all HAL.out (show i = s.f5.length by omega))
        clear HAL
        go_wp2
        go_meet
        case rel => exact ⟨HN, HB⟩
    case rest =>
      obtain ⟨HN, HBc⟩ := hcut
      clear HB p0 p1 p2 p3 p4 p5 p6 p7 p8 p9 q0 q1 q2 q3 q4 q5 q6 q7
      have HB := HBc
      clear HBc
      obtain ⟨p0, p1, p2, p3, p4, p5, p6, p7, p8, p9⟩ := BC1.out _ HB.out; obtain ⟨q0, q1, q2, q3, q4, q5, q6, q7⟩ := BC2.out _ HB.out
      go_upto_region 9 with (fail)
      go_cut [139] (fun v139 wc => v139 = .bool (bad2 s h4 h5 h6 h7) ∧ Lx.Hd (Below W4.heap.size W4 wc))
      case first =>
        rename_i Kq hKq Jq Kq1 hJq hKq1
        clear hKq
        obtain ⟨q, hq⟩ : ∃ q, ((s.f7.length : Int) == 1) = q := ⟨_, rfl⟩
        by_cases z6 : (1 : Int) < (s.f6.length : Int)
        · go_wp2
          go_meet
          case rel => exact ⟨congrArg Value.bool (by simp [bad2, z6]), HB⟩
        rcases k8_sets2 s HK.out with ⟨rfl, rfl, rfl, rfl⟩ | ⟨rfl, rfl, rfl, rfl⟩ | ⟨rfl, rfl, rfl, rfl⟩ | ⟨rfl, rfl, rfl, rfl⟩ | ⟨rfl, rfl, rfl, rfl⟩ | ⟨rfl, rfl, rfl, rfl⟩
        · as_aux_lemma =>
          by_cases y6 : 0 < s.f6.length
          · go_wp2
            go_meet
            case rel => exact ⟨congrArg Value.bool (by simp [bad2, y6]), HB⟩
          cases q
          · go_wp2
            go_meet
            case rel => exact ⟨congrArg Value.bool (by simp [bad2, hq]), HB⟩
          by_cases y8 : 0 < s.f8.length
          · go_wp2
            go_meet
            case rel => exact ⟨congrArg Value.bool (by simp [bad2, y8]), HB⟩
          by_cases y9 : 0 < s.f9.length
          · go_wp2
            go_meet
            case rel => exact ⟨congrArg Value.bool (by simp [bad2, y9]), HB⟩
          go_wp2
          go_meet
          case rel => exact ⟨congrArg Value.bool (by simp [bad2, z6, y6, hq, y8, y9]), HB⟩
        · as_aux_lemma =>
          cases q
          · go_wp2
            go_meet
            case rel => exact ⟨congrArg Value.bool (by simp [bad2, hq]), HB⟩
          by_cases y8 : 0 < s.f8.length
          · go_wp2
            go_meet
            case rel => exact ⟨congrArg Value.bool (by simp [bad2, y8]), HB⟩
          by_cases y9 : 0 < s.f9.length
          · go_wp2
            go_meet
            case rel => exact ⟨congrArg Value.bool (by simp [bad2, y9]), HB⟩
          go_wp2
          go_meet
          case rel => exact ⟨congrArg Value.bool (by simp [bad2, z6, hq, y8, y9]), HB⟩
        · as_aux_lemma =>
          by_cases y6 : 0 < s.f6.length
          · go_wp2
            go_meet
            case rel => exact ⟨congrArg Value.bool (by simp [bad2, y6]), HB⟩
          cases q
          · go_wp2
            go_meet
            case rel => exact ⟨congrArg Value.bool (by simp [bad2, hq]), HB⟩
          go_wp2
          go_meet
          case rel => exact ⟨congrArg Value.bool (by simp [bad2, z6, y6, hq]), HB⟩
        · as_aux_lemma =>
          by_cases y6 : 0 < s.f6.length
          · go_wp2
            go_meet
            case rel => exact ⟨congrArg Value.bool (by simp [bad2, y6]), HB⟩
          cases q
          · go_wp2
            go_meet
            case rel => exact ⟨congrArg Value.bool (by simp [bad2, hq]), HB⟩
          by_cases y9 : 0 < s.f9.length
          · go_wp2
            go_meet
            case rel => exact ⟨congrArg Value.bool (by simp [bad2, y9]), HB⟩
          go_wp2
          go_meet
          case rel => exact ⟨congrArg Value.bool (by simp [bad2, z6, y6, hq, y9]), HB⟩
        · as_aux_lemma =>
          by_cases y6 : 0 < s.f6.length
          · go_wp2
            go_meet
            case rel => exact ⟨congrArg Value.bool (by simp [bad2, y6]), HB⟩
          cases q
          rotate_left
          · go_wp2
            go_meet
            case rel => exact ⟨congrArg Value.bool (by simp [bad2, hq]), HB⟩
          by_cases y7 : 0 < s.f7.length
          · go_wp2
            go_meet
            case rel => exact ⟨congrArg Value.bool (by simp [bad2, y7]), HB⟩
          by_cases y8 : 0 < s.f8.length
          · go_wp2
            go_meet
            case rel => exact ⟨congrArg Value.bool (by simp [bad2, y8]), HB⟩
          by_cases y9 : 0 < s.f9.length
          · go_wp2
            go_meet
            case rel => exact ⟨congrArg Value.bool (by simp [bad2, y9]), HB⟩
          go_wp2
          go_meet
          case rel => exact ⟨congrArg Value.bool (by simp [bad2, z6, y6, hq, y7, y8, y9]), HB⟩
        · as_aux_lemma =>
          by_cases y6 : 0 < s.f6.length
          · go_wp2
            go_meet
            case rel => exact ⟨congrArg Value.bool (by simp [bad2, y6]), HB⟩
          cases q
          rotate_left
          · go_wp2
            go_meet
            case rel => exact ⟨congrArg Value.bool (by simp [bad2, hq]), HB⟩
          by_cases y7 : 0 < s.f7.length
          · go_wp2
            go_meet
            case rel => exact ⟨congrArg Value.bool (by simp [bad2, y7]), HB⟩
          by_cases y9 : 0 < s.f9.length
          · go_wp2
            go_meet
            case rel => exact ⟨congrArg Value.bool (by simp [bad2, y9]), HB⟩
          go_wp2
          go_meet
          case rel => exact ⟨congrArg Value.bool (by simp [bad2, z6, y6, hq, y7, y9]), HB⟩
      case rest =>
        obtain ⟨rfl, HBc⟩ := hcut
        clear HB p0 p1 p2 p3 p4 p5 p6 p7 p8 p9 q0 q1 q2 q3 q4 q5 q6 q7
        have HB := HBc
        clear HBc
        obtain ⟨p0, p1, p2, p3, p4, p5, p6, p7, p8, p9⟩ := BC1.out _ HB.out; obtain ⟨q0, q1, q2, q3, q4, q5, q6, q7⟩ := BC2.out _ HB.out
        cases hb2 : bad2 s h4 h5 h6 h7
        rotate_left
        · go_wp2
          go_ret
          exact ⟨by rw [← k8_stmt s HK.out, hb2, Bool.not_true, Bool.and_false, Bool.and_false]; rfl, below_step HB0.out HB.out⟩
        have HE : Lx.Hd (stmtB s = true) := Lx.Hd.mk (by rw [← k8_stmt s HK.out, HF1.out, HN.out, hb2]; rfl)
        clear hb2 HN HF1
        go_wp2
        go_loopw [6] (fun t6 wr => ∃ i : Nat, i ≤ s.f6.length ∧ t6 = .int .i64 i ∧ Lx.Hd ((s.f6.take i).all (fun x => rightN (.ex x)) = true) ∧ Lx.Hd (Below W4.heap.size W4 wr)) (fun t6 _ => s.f6.length - (intOf t6).toNat)
        case atStart => exact ⟨0, Nat.zero_le _, rfl, Lx.Hd.mk rfl, HB⟩
        case round =>
          clear p0 p1 p2 p3 p4 p5 p6 p7 p8 p9 q0 q1 q2 q3 q4 q5 q6 q7 HB
          obtain ⟨i, hi, rfl, HAL, HB⟩ := hrel
          obtain ⟨p0, p1, p2, p3, p4, p5, p6, p7, p8, p9⟩ := BC1.out _ HB.out; obtain ⟨q0, q1, q2, q3, q4, q5, q6, q7⟩ := BC2.out _ HB.out
          by_cases hlt : i < s.f6.length
          · obtain ⟨ad, A', c', rfl, e0, e1, e2, e3, e4, e5, k5, g5⟩ := at_T25 (show kE.C W4 A6 s.f6.length s.f6 from HR.out.2.1) i (by omega) (by omega)
            have ex : rd_T25 s.f6 i = s.f6[i] := by unfold rd_T25; rw [Int.toNat_natCast, List.getD_eq_getElem?_getD, List.getElem?_eq_getElem hlt]; rfl
            rw [ex] at e0 e1 e2 e3 e4 e5 k5 g5
            rw [Int.toNat_natCast] at e0 e1 e2 e3 e4 e5
            have hm : s.f6[i] ∈ s.f6 := List.getElem_mem hlt
            have hst := I6.out s.f6[i] hm
            unfold RefAt at hst
            have HT : Lx.Hd (s.f6.take (i + 1) = s.f6.take i ++ [s.f6[i]]) := Lx.Hd.mk (by rw [List.take_succ_eq_append_getElem hlt])
            generalize s.f6[i] = x at *
            clear ex
            have HM := Lx.Hd.mk hm
            have HKx : Lx.Hd (∀ W, Below W4.heap.size W4 W → Calls Tryd.prog 86 #[.agg #[.int .i64 x.f0, .int .i64 x.f1, .int .i64 x.f2, .int .u32 x.f3, .string x.f4, .slice A' x.f5.length c']] W fun r W' => r = .returned (.bool (rightN (.ex x))) ∧ Below W.heap.size W W') := Lx.Hd.mk fun W hb => hst A' c' W (RowsE.below ⟨g5, k5⟩ hb)
            clear hst hm
            have r0 := pw_cell_below HB.out e0
            have r1 := pw_cell_below HB.out e1
            have r2 := pw_cell_below HB.out e2
            have r3 := pw_cell_below HB.out e3
            have r4 := pw_cell_below HB.out e4
            have r5 := pw_cell_below HB.out e5
            clear e0 e1 e2 e3 e4 e5 g5
            cases hx : rightN (.ex x)
            all_goals
              go_wp2_with (first | (go_at_call 86; (with_reducible refine (HKx.out _ HB.out).mono ?_); rw [hx]; rintro r W5 ⟨rfl, hb⟩; replace HB := bst HB hb; clear hb) | fail)
            · go_ret
              refine ⟨?_, below_step HB0.out HB.out⟩
              have hf : rightEs exprB s.f6 = false := by rw [← all_right]; exact all_not HM.out hx
              rw [show restS s = false by unfold restS; rw [hf]; simp, Bool.and_false]; rfl
            · exact ⟨⟨i + 1, hlt, by go_num, Lx.Hd.mk (take_next HAL.out HT.out hx), HB⟩, by simp [intOf]; omega⟩
          have HE6 : Lx.Hd (rightEs exprB s.f6 = true) := Lx.Hd.mk (by rw [← all_right]; exact take_all HAL.out (show i = s.f6.length by omega))
          clear HAL
          go_wp2
          go_loopw [7] (fun t7 wr => ∃ i : Nat, i ≤ s.f7.length ∧ t7 = .int .i64 i ∧ Lx.Hd ((s.f7.take i).all (fun x => rightN (.ex x)) = true) ∧ Lx.Hd (Below W4.heap.size W4 wr)) (fun t7 _ => s.f7.length - (intOf t7).toNat)
          case atStart => exact ⟨0, Nat.zero_le _, rfl, Lx.Hd.mk rfl, HB⟩
          case round =>
            clear p0 p1 p2 p3 p4 p5 p6 p7 p8 p9 q0 q1 q2 q3 q4 q5 q6 q7 HB
            obtain ⟨i, hi, rfl, HAL, HB⟩ := hrel
            obtain ⟨p0, p1, p2, p3, p4, p5, p6, p7, p8, p9⟩ := BC1.out _ HB.out; obtain ⟨q0, q1, q2, q3, q4, q5, q6, q7⟩ := BC2.out _ HB.out
            by_cases hlt : i < s.f7.length
            · obtain ⟨ad, A', c', rfl, e0, e1, e2, e3, e4, e5, k5, g5⟩ := at_T25 (show kE.C W4 A7 s.f7.length s.f7 from HR.out.2.2.1) i (by omega) (by omega)
              have ex : rd_T25 s.f7 i = s.f7[i] := by unfold rd_T25; rw [Int.toNat_natCast, List.getD_eq_getElem?_getD, List.getElem?_eq_getElem hlt]; rfl
              rw [ex] at e0 e1 e2 e3 e4 e5 k5 g5
              rw [Int.toNat_natCast] at e0 e1 e2 e3 e4 e5
              have hm : s.f7[i] ∈ s.f7 := List.getElem_mem hlt
              have hst := I7.out s.f7[i] hm
              unfold RefAt at hst
              have HT : Lx.Hd (s.f7.take (i + 1) = s.f7.take i ++ [s.f7[i]]) := Lx.Hd.mk (by rw [List.take_succ_eq_append_getElem hlt])
              generalize s.f7[i] = x at *
              clear ex
              have HM := Lx.Hd.mk hm
              have HKx : Lx.Hd (∀ W, Below W4.heap.size W4 W → Calls Tryd.prog 86 #[.agg #[.int .i64 x.f0, .int .i64 x.f1, .int .i64 x.f2, .int .u32 x.f3, .string x.f4, .slice A' x.f5.length c']] W fun r W' => r = .returned (.bool (rightN (.ex x))) ∧ Below W.heap.size W W') := Lx.Hd.mk fun W hb => hst A' c' W (RowsE.below ⟨g5, k5⟩ hb)
              clear hst hm
              have r0 := pw_cell_below HB.out e0
              have r1 := pw_cell_below HB.out e1
              have r2 := pw_cell_below HB.out e2
              have r3 := pw_cell_below HB.out e3
              have r4 := pw_cell_below HB.out e4
              have r5 := pw_cell_below HB.out e5
              clear e0 e1 e2 e3 e4 e5 g5
              cases hx : rightN (.ex x)
              all_goals
                go_wp2_with (first | (go_at_call 86; (with_reducible refine (HKx.out _ HB.out).mono ?_); rw [hx]; rintro r W5 ⟨rfl, hb⟩; replace HB := bst HB hb; clear hb) | fail)
              · go_ret
                refine ⟨?_, below_step HB0.out HB.out⟩
                have hf : rightEs exprB s.f7 = false := by rw [← all_right]; exact all_not HM.out hx
                rw [show restS s = false by unfold restS; rw [hf]; simp, Bool.and_false]; rfl
              · exact ⟨⟨i + 1, hlt, by go_num, Lx.Hd.mk (take_next HAL.out HT.out hx), HB⟩, by simp [intOf]; omega⟩
            have HE7 : Lx.Hd (rightEs exprB s.f7 = true) := Lx.Hd.mk (by rw [← all_right]; exact take_all HAL.out (show i = s.f7.length by omega))
            clear HAL
            cases h8 : rightSs exprB stmtB s.f8
            · go_wp2_with (first | (go_at_call 113; (with_reducible refine (refAll s.f8 A8 c8 _ ?s1 I8.out).mono ?_); (case s1 => exact Kd.C_below HR.out.2.2.2.1 HB.out); rw [h8]; rintro r W5 ⟨rfl, hb⟩; replace HB := bst HB hb; clear hb; clear p0 p1 p2 p3 p4 p5 p6 p7 p8 p9 q0 q1 q2 q3 q4 q5 q6 q7; obtain ⟨p0, p1, p2, p3, p4, p5, p6, p7, p8, p9⟩ := BC1.out _ HB.out; obtain ⟨q0, q1, q2, q3, q4, q5, q6, q7⟩ := BC2.out _ HB.out) | fail)
              go_ret
              exact ⟨by rw [show restS s = false by unfold restS; rw [h8]; simp, Bool.and_false]; rfl, below_step HB0.out HB.out⟩
            cases h9 : rightSs exprB stmtB s.f9
            all_goals
              go_wp2_with (first | (go_at_call 113; (with_reducible refine (refAll s.f8 A8 c8 _ ?s1 I8.out).mono ?_); (case s1 => exact Kd.C_below HR.out.2.2.2.1 HB.out); rw [h8]; rintro r W5 ⟨rfl, hb⟩; replace HB := bst HB hb; clear hb; clear p0 p1 p2 p3 p4 p5 p6 p7 p8 p9 q0 q1 q2 q3 q4 q5 q6 q7; obtain ⟨p0, p1, p2, p3, p4, p5, p6, p7, p8, p9⟩ := BC1.out _ HB.out; obtain ⟨q0, q1, q2, q3, q4, q5, q6, q7⟩ := BC2.out _ HB.out) | (go_at_call 113; (with_reducible refine (refAll s.f9 A9 c9 _ ?s1 I9.out).mono ?_); (case s1 => exact Kd.C_below HR.out.2.2.2.2.1 HB.out); rw [h9]; rintro r W5 ⟨rfl, hb⟩; replace HB := bst HB hb; clear hb; clear p0 p1 p2 p3 p4 p5 p6 p7 p8 p9 q0 q1 q2 q3 q4 q5 q6 q7; obtain ⟨p0, p1, p2, p3, p4, p5, p6, p7, p8, p9⟩ := BC1.out _ HB.out; obtain ⟨q0, q1, q2, q3, q4, q5, q6, q7⟩ := BC2.out _ HB.out) | fail)
              go_ret
              exact ⟨by rw [HE.out, show restS s = _ by unfold restS; rw [HE6.out, HE7.out, h8, h9]]; rfl, below_step HB0.out HB.out⟩
end Go.Proofs.YtgkhpecllhiidaaDoor.A
