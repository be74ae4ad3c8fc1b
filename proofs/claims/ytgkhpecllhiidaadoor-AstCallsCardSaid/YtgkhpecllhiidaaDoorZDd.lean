/- The reference of chapter 6: may an expression be. -/
import Derived.Test.YtgkhpecllhiidaaDoorZPw
import Derived.Test.YtgkhpecllhiidaaDoorZCq
import Derived.Test.YtgkhpecllhiidaaDoorZDb
import Derived.Test.YtgkhpecllhiidaaDoorZAg
set_option linter.unusedVariables false
set_option linter.unusedSimpArgs false
namespace Go.Proofs.YtgkhpecllhiidaaDoor.A
open Go.RowKit Go.Shelf Go.Proofs.YtgkhpecllhiidaaDoor.As Go.Proofs.YtgkhpecllhiidaaDoorW.PrintWords Go.Proofs.YtgkhpecllhiidaaDoorW.PrintLast Go.Proofs.YtgkhpecllhiidaaDoorW.PrintMore
theorem lt_of_blk {W : World} {b : Nat} {f0 f1 f2 f3 : Int} {f4 : ByteArray} (h : WB W b f0 f1 f2 f3 f4) : b < W.heap.size := (Array.getElem?_eq_some_iff.1 h).1
def CellsN (W : World) (B : Nat) (f0 f1 f2 f3 : Int) (f4 : ByteArray) (A : Option Addr) (n c : Nat) : Prop := W.cell? ⟨B, 0, none⟩ = some (.int .i64 f0) ∧ W.cell? ⟨B, 1, none⟩ = some (.int .i64 f1) ∧ W.cell? ⟨B, 2, none⟩ = some (.int .i64 f2) ∧ W.cell? ⟨B, 3, none⟩ = some (.int .u32 f3) ∧ W.cell? ⟨B, 4, none⟩ = some (.string f4) ∧ W.cell? ⟨B, 5, none⟩ = some (.slice A n c)
theorem cellsN_of {W : World} {B : Nat} {f0 f1 f2 f3 : Int} {f4 : ByteArray} {A : Option Addr} {n c : Nat} (h : W.heap[B]? = some (.cells #[.int .i64 f0, .int .i64 f1, .int .i64 f2, .int .u32 f3, .string f4, .slice A n c] 25 (0, 0))) : CellsN W B f0 f1 f2 f3 f4 A n c := by
  refine ⟨?_, ?_, ?_, ?_, ?_, ?_⟩ <;> (unfold World.cell?; rw [h]; rfl)
def askE (n : Nat) (f1 f2 f3 : Int) (f4 : ByteArray) (is : Bool) (m g1 g2 g3 : Int) (g4 : ByteArray) : Bool := is && ((n : Int) == m && (g1 == f1 && (g2 == f2 && (g3 == f3 && g4.toList == f4.toList))))
theorem bc (a b : Int) : (a == b) = (b == a) := Bool.beq_comm ..
theorem bcl (a b : List UInt8) : (a == b) = (b == a) := Bool.beq_comm ..
theorem ask_1 (f1 f2 f3 : Int) (f4 : ByteArray) (l : List SE) : askE l.length f1 f2 f3 f4 true 0 0 0 f3 ⟨#[]⟩ = exprB ⟨1, f1, f2, f3, f4, l⟩ := by
  unfold exprB sameB askE
  simp only [if_true, beq_self_eq_true, Bool.true_and, bc 0, bcl (⟨#[]⟩ : ByteArray).toList]
theorem ask_2 (f1 f2 f3 : Int) (f4 : ByteArray) (l : List SE) : askE l.length f1 f2 f3 f4 (nameB f4) 0 0 0 0 f4 = exprB ⟨2, f1, f2, f3, f4, l⟩ := by
  unfold exprB sameB askE
  simp only [if_neg (show ¬ (2 : Int) = 1 by decide), if_true, beq_self_eq_true, Bool.true_and, Bool.and_true, bc 0]
  cases nameB f4 <;> cases ((l.length : Int) == 0) <;> rfl
theorem ask_3 (f1 f2 f3 : Int) (f4 : ByteArray) (l : List SE) : askE l.length f1 f2 f3 f4 (nameB f4) 1 0 0 0 f4 = exprB ⟨3, f1, f2, f3, f4, l⟩ := by
  unfold exprB sameB askE
  simp only [if_neg (show ¬ (3 : Int) = 1 by decide), if_neg (show ¬ (3 : Int) = 2 by decide), if_true, beq_self_eq_true, Bool.true_and, Bool.and_true, bc 0]
  cases nameB f4 <;> cases ((l.length : Int) == 1) <;> rfl
theorem ask_4 (f1 f2 f3 : Int) (f4 : ByteArray) (l : List SE) : askE l.length f1 f2 f3 f4 (nameB f4 && decide ((l.length : Int) ≤ 8)) (l.length : Int) 0 0 0 f4 = exprB ⟨4, f1, f2, f3, f4, l⟩ := by
  unfold exprB sameB askE
  simp only [if_neg (show ¬ (4 : Int) = 1 by decide), if_neg (show ¬ (4 : Int) = 2 by decide), if_neg (show ¬ (4 : Int) = 3 by decide), if_true, beq_self_eq_true, Bool.true_and, Bool.and_true, bc 0]
  cases nameB f4 <;> cases decide ((l.length : Int) ≤ 8) <;> rfl
theorem ask_5 (f1 f2 f3 : Int) (f4 : ByteArray) (l : List SE) : askE l.length f1 f2 f3 f4 ((wordName f1).toList != []) 1 f1 0 0 ⟨#[]⟩ = exprB ⟨5, f1, f2, f3, f4, l⟩ := by
  unfold exprB sameB askE
  simp only [if_neg (show ¬ (5 : Int) = 1 by decide), if_neg (show ¬ (5 : Int) = 2 by decide), if_neg (show ¬ (5 : Int) = 3 by decide), if_neg (show ¬ (5 : Int) = 4 by decide), if_true, beq_self_eq_true, Bool.true_and, bc 0, bcl (⟨#[]⟩ : ByteArray).toList]
  cases (wordName f1).toList != [] <;> cases ((l.length : Int) == 1) <;> rfl
theorem ask_6 (f1 f2 f3 : Int) (f4 : ByteArray) (l : List SE) : askE l.length f1 f2 f3 f4 (opB f1) 2 f1 0 0 ⟨#[]⟩ = exprB ⟨6, f1, f2, f3, f4, l⟩ := by
  unfold exprB sameB askE
  simp only [if_neg (show ¬ (6 : Int) = 1 by decide), if_neg (show ¬ (6 : Int) = 2 by decide), if_neg (show ¬ (6 : Int) = 3 by decide), if_neg (show ¬ (6 : Int) = 4 by decide), if_neg (show ¬ (6 : Int) = 5 by decide), if_true, beq_self_eq_true, Bool.true_and, bc 0, bcl (⟨#[]⟩ : ByteArray).toList]
  cases opB f1 <;> cases ((l.length : Int) == 2) <;> rfl
theorem ask_7 (f1 f2 f3 : Int) (f4 : ByteArray) (l : List SE) : askE l.length f1 f2 f3 f4 (decide (0 < widthI f2)) 1 0 f2 0 ⟨#[]⟩ = exprB ⟨7, f1, f2, f3, f4, l⟩ := by
  unfold exprB sameB askE
  simp only [if_neg (show ¬ (7 : Int) = 1 by decide), if_neg (show ¬ (7 : Int) = 2 by decide), if_neg (show ¬ (7 : Int) = 3 by decide), if_neg (show ¬ (7 : Int) = 4 by decide), if_neg (show ¬ (7 : Int) = 5 by decide), if_neg (show ¬ (7 : Int) = 6 by decide), if_true, beq_self_eq_true, Bool.true_and, bc 0, bcl (⟨#[]⟩ : ByteArray).toList]
  cases decide (0 < widthI f2) <;> cases ((l.length : Int) == 1) <;> rfl
theorem ask_0 (f0 f1 f2 f3 : Int) (f4 : ByteArray) (l : List SE) (h1 : ¬ f0 = 1) (h2 : ¬ f0 = 2) (h3 : ¬ f0 = 3) (h4 : ¬ f0 = 4) (h5 : ¬ f0 = 5) (h6 : ¬ f0 = 6) (h7 : ¬ f0 = 7) : askE l.length f1 f2 f3 f4 false 0 0 0 0 ⟨#[]⟩ = exprB ⟨f0, f1, f2, f3, f4, l⟩ := by
  unfold exprB askE
  simp only [if_neg h1, if_neg h2, if_neg h3, if_neg h4, if_neg h5, if_neg h6, if_neg h7, Bool.false_and]
theorem ne_nil_isEmpty (l : List UInt8) : (l != []) = !l.isEmpty := by cases l <;> rfl
def RefAt (x : SE) : Prop := ∀ (A : Option Addr) (c : Nat) (W : World), RowsE W x A c → Calls Tryd.prog 86 #[.agg #[.int .i64 x.f0, .int .i64 x.f1, .int .i64 x.f2, .int .u32 x.f3, .string x.f4, .slice A x.f5.length c]] W fun r W' => r = .returned (.bool (rightN (.ex x))) ∧ Below W.heap.size W W'
set_option maxRecDepth 100000 in
set_option maxHeartbeats 8000000 in
theorem refExpr_step (f0 f1 f2 f3 : Int) (f4 : ByteArray) (l : List SE) (A5 : Option Addr) (c5 : Nat) (w : World) (hR : RowsE w ⟨f0, f1, f2, f3, f4, l⟩ A5 c5) (hs : f4.size ≤ 140737488351232) (ih : ∀ x ∈ l, RefAt x) :
    Calls Tryd.prog 86 #[.agg #[.int .i64 f0, .int .i64 f1, .int .i64 f2, .int .u32 f3, .string f4, .slice A5 l.length c5]] w fun r w' => r = .returned (.bool (exprB ⟨f0, f1, f2, f3, f4, l⟩ && l.all (fun x => rightN (.ex x)))) ∧ Below w.heap.size w w' := by
  obtain ⟨n, hn⟩ : ∃ n, l.length = n := ⟨_, rfl⟩
  have hnb : n ≤ 9223372036854775807 := by rw [← hn]; exact hR.1.2.1
  rw [hn]
  have HN := Lx.Hd.mk hn
  have HR := Lx.Hd.mk hR
  have IH := Lx.Hd.mk ih
  clear hR hn ih
  go_enter Tryd.func86, Tryd.ntmps86
  go_upto_region 2 with (fail)
  refine name_world fun W2 hW2 => ?_
  have HB0 : Lx.Hd (Below w.heap.size w W2) := Lx.Hd.mk (by rw [hW2]; exact below_alloc (below_alloc (Below.refl _ _) _) _)
  have z1 : (w.alloc (.cells #[.int .i64 f0, .int .i64 f1, .int .i64 f2, .int .u32 f3, .string f4, .slice A5 n c5] 25)).heap.size = w.heap.size + 1 := by simp
  have hb1 : W2.heap[w.heap.size]? = some (.cells #[.int .i64 f0, .int .i64 f1, .int .i64 f2, .int .u32 f3, .string f4, .slice A5 n c5] 25 (0, 0)) := by rw [hW2]; exact blk_alloc (World.alloc_heap_new w _) _
  have hb3 : WB W2 (w.heap.size + 1) f0 0 0 0 ⟨#[]⟩ := by rw [hW2, ← z1]; exact World.alloc_heap_new _ _
  clear hW2 z1
  obtain ⟨bw, hbw⟩ : ∃ b, b = w.heap.size + 1 := ⟨_, rfl⟩
  rw [← hbw] at hb3 ⊢
  have HBw1 : Lx.Hd (w.heap.size + 1 ≤ bw) := Lx.Hd.mk (by omega)
  clear hbw
  obtain ⟨bx, hbx⟩ : ∃ b, b = w.heap.size := ⟨_, rfl⟩
  rw [← hbx] at hb1 HBw1 ⊢
  have HX := Lx.Hd.mk hbx
  clear hbx
  have BC : Lx.Hd (∀ W', Below (bx + 1) W2 W' → CellsN W' bx f0 f1 f2 f3 f4 A5 n c5) := Lx.Hd.mk fun W' hb => cellsN_of ((hb.block _ (Nat.lt_succ_self _)).trans hb1)
  have HB : Lx.Hd (Below (bx + 1) W2 W2) := Lx.Hd.mk (Below.refl _ _)
  have Hb3 := Lx.Hd.mk hb3
  have HBl : Lx.Hd (bw < W2.heap.size) := Lx.Hd.mk (lt_of_blk hb3)
  have HBs : Lx.Hd (bx + 1 ≤ W2.heap.size) := Lx.Hd.mk (Nat.le_trans HBw1.out (Nat.le_of_lt HBl.out))
  clear hb1 hb3
  obtain ⟨p0, p1, p2, p3, p4, p5⟩ := BC.out _ HB.out
  obtain ⟨k0, k1, k2, k3, k4, k5, l0, l1, l2, l3, l4⟩ := Hb3.out.cells
  go_upto_block 0 with (fail)
  go_cut [4, 5] (fun v4 v5 wc => ∃ (is : Bool) (m g1 g2 g3 : Int) (g4 : ByteArray), v4 = .bool is ∧ v5 = .int .i64 m ∧ Lx.Hd (askE n f1 f2 f3 f4 is m g1 g2 g3 g4 = exprB ⟨f0, f1, f2, f3, f4, l⟩) ∧ Lx.Hd (WB wc bw f0 g1 g2 g3 g4) ∧ Lx.Hd (Below (bx + 1) W2 wc))
  case first =>
    rename_i Kq hKq Jq Kq1 hJq hKq1
    clear hKq
    by_cases h1 : f0 = 1
    · subst h1
      go_upto_region 5 with (fail)
      refine name_world fun W5 hW5 => ?_
      subst hW5
      go_wp2
      go_meet
      case rel => exact ⟨true, 0, 0, 0, f3, ⟨#[]⟩, rfl, rfl, Lx.Hd.mk (by rw [← HN.out]; exact ask_1 f1 f2 f3 f4 l), Lx.Hd.mk (blk_put Hb3.out 3 _ rfl), Lx.Hd.mk (HB.out.setCell (p := ⟨bw, 3, none⟩) HBw1.out _)⟩
    by_cases h2 : f0 = 2
    · subst h2
      go_upto_region 7 with (fail)
      clear p0 p1 p2 p3 p4 p5 k0 k1 k2 k3 k4 k5 l0 l1 l2 l3 l4
      have HBd := Lx.Hd.mk (below_drew HB.out)
      have Hb3d : Lx.Hd (WB W2.drew bw 2 0 0 0 ⟨#[]⟩) := Lx.Hd.mk Hb3.out
      refine start_ (n := 8) (S := fun w' => CellsN w' bx 2 f1 f2 f3 f4 A5 n c5) (ds := []) (fl 8 0) (by kernel_rfl) rfl rfl (BC.out _ HBd.out) (fun hHeld => ?_)
      clear HB Hb3
      have HB := HBd
      have Hb3 := Hb3d
      clear HBd Hb3d
      refine pu 0 (some 19) (fl 8 1) ?_
      refine pu 2 (some 21) (fl 8 5) ?_
      refine tk 1 (some 20) (fl 8 7) hHeld (hr := by rintro w' ⟨s0, s1, s2, s3, s4, s5⟩; go_simp; with_reducible rfl) (h := ?_)
      refine pu 5 (some 24) (fl 8 39) ?_
      refine tk 3 (some 22) (fl 8 47) hHeld (hr := by rintro w' ⟨s0, s1, s2, s3, s4, s5⟩; go_simp; with_reducible rfl) (h := ?_)
      refine one_ (i := 4) (N := some 23) (fl 8 63) rfl rfl (by kernel_rfl) (by decide) (fun K hK => ?_)
      refine goes_ Tryd.func82 (by kernel_rfl) rfl #[.string f4] (by rfl) rfl rfl (by (try simp only [List.map_toArray, List.map_cons, List.map_nil]); first | done | rfl) ?_
      with_reducible refine (refWord f4 _ hs).mono ?_
      rintro r W3 ⟨rfl, hb⟩
      refine ⟨_, rfl, ?_⟩
      have hn_ : Lx.Hd (Below (bx + 1) W2 W3) := Lx.Hd.mk (HB.out.trans (hb.mono (Nat.le_trans HBs.out HB.out.size)))
      have hq_ : Lx.Hd (WB W3 bw 2 0 0 0 ⟨#[]⟩) := Lx.Hd.mk ((hb.block _ (Nat.lt_of_lt_of_le HBl.out HB.out.size)).trans Hb3.out)
      clear hb HB Hb3
      have HB := hn_
      have Hb3 := hq_
      clear hn_ hq_
      refine hK.out _ _ (BC.out _ HB.out) (fun hHeld => ?_)
      clear hK K
      refine norm_ (a' := ?_) ?_ ?_
      rotate_left; · (show Act.put _ (some 23) _ = _; simp only [Act.put, List.setIfInBounds_toArray, List.set_cons_zero, List.set_cons_succ, i64_w, i32_w]; rfl)
      refine one_ (i := 6) (N := none) (fl 8 127) rfl rfl (by kernel_rfl) (by decide) (fun K hK => ?_)
      obtain ⟨k0, k1, k2, k3, k4, k5, l0, l1, l2, l3, l4⟩ := Hb3.out.cells
      refine skip_ (w1 := ?_) (by rfl) rfl ?_ ?_
      rotate_left
      · go_simp
        rfl
      have hn_ : Lx.Hd (Below (bx + 1) W2 (W3.setCell ⟨bw, 4, none⟩ (.string f4))) := Lx.Hd.mk (HB.out.setCell (p := ⟨bw, 4, none⟩) HBw1.out _)
      have hq_ : Lx.Hd (WB (W3.setCell ⟨bw, 4, none⟩ (.string f4)) bw 2 0 0 0 f4) := Lx.Hd.mk (blk_put Hb3.out 4 _ rfl)
      clear k0 k1 k2 k3 k4 k5 l0 l1 l2 l3 l4 HB Hb3
      have HB := hn_
      have Hb3 := hq_
      clear hn_ hq_
      refine hK.out _ _ (BC.out _ HB.out) (fun hHeld => ?_)
      clear hK K
      refine pu 7 (some 4) (fl 8 255) ?_
      refine done_ (by kernel_rfl) ?_
      go_wp2
      go_meet
      case rel => exact ⟨_, _, _, _, _, _, rfl, rfl, Lx.Hd.mk (by rw [← HN.out]; exact ask_2 f1 f2 f3 f4 l), Hb3, HB⟩
    by_cases h3 : f0 = 3
    · subst h3
      go_upto_region 9 with (fail)
      clear p0 p1 p2 p3 p4 p5 k0 k1 k2 k3 k4 k5 l0 l1 l2 l3 l4
      have HBd := Lx.Hd.mk (below_drew HB.out)
      have Hb3d : Lx.Hd (WB W2.drew bw 3 0 0 0 ⟨#[]⟩) := Lx.Hd.mk Hb3.out
      refine start_ (n := 9) (S := fun w' => CellsN w' bx 3 f1 f2 f3 f4 A5 n c5) (ds := []) (fl 9 0) (by kernel_rfl) rfl rfl (BC.out _ HBd.out) (fun hHeld => ?_)
      clear HB Hb3
      have HB := HBd
      have Hb3 := Hb3d
      clear HBd Hb3d
      refine pu 0 (some 27) (fl 9 1) ?_
      refine pu 2 (some 29) (fl 9 5) ?_
      refine tk 1 (some 28) (fl 9 7) hHeld (hr := by rintro w' ⟨s0, s1, s2, s3, s4, s5⟩; go_simp; with_reducible rfl) (h := ?_)
      refine pu 5 (some 32) (fl 9 39) ?_
      refine tk 3 (some 30) (fl 9 47) hHeld (hr := by rintro w' ⟨s0, s1, s2, s3, s4, s5⟩; go_simp; with_reducible rfl) (h := ?_)
      refine one_ (i := 4) (N := some 31) (fl 9 63) rfl rfl (by kernel_rfl) (by decide) (fun K hK => ?_)
      refine goes_ Tryd.func82 (by kernel_rfl) rfl #[.string f4] (by rfl) rfl rfl (by (try simp only [List.map_toArray, List.map_cons, List.map_nil]); first | done | rfl) ?_
      with_reducible refine (refWord f4 _ hs).mono ?_
      rintro r W3 ⟨rfl, hb⟩
      refine ⟨_, rfl, ?_⟩
      have hn_ : Lx.Hd (Below (bx + 1) W2 W3) := Lx.Hd.mk (HB.out.trans (hb.mono (Nat.le_trans HBs.out HB.out.size)))
      have hq_ : Lx.Hd (WB W3 bw 3 0 0 0 ⟨#[]⟩) := Lx.Hd.mk ((hb.block _ (Nat.lt_of_lt_of_le HBl.out HB.out.size)).trans Hb3.out)
      clear hb HB Hb3
      have HB := hn_
      have Hb3 := hq_
      clear hn_ hq_
      refine hK.out _ _ (BC.out _ HB.out) (fun hHeld => ?_)
      clear hK K
      refine norm_ (a' := ?_) ?_ ?_
      rotate_left; · (show Act.put _ (some 31) _ = _; simp only [Act.put, List.setIfInBounds_toArray, List.set_cons_zero, List.set_cons_succ, i64_w, i32_w]; rfl)
      refine one_ (i := 6) (N := none) (fl 9 127) rfl rfl (by kernel_rfl) (by decide) (fun K hK => ?_)
      obtain ⟨k0, k1, k2, k3, k4, k5, l0, l1, l2, l3, l4⟩ := Hb3.out.cells
      refine skip_ (w1 := ?_) (by rfl) rfl ?_ ?_
      rotate_left
      · go_simp
        rfl
      have hn_ : Lx.Hd (Below (bx + 1) W2 (W3.setCell ⟨bw, 4, none⟩ (.string f4))) := Lx.Hd.mk (HB.out.setCell (p := ⟨bw, 4, none⟩) HBw1.out _)
      have hq_ : Lx.Hd (WB (W3.setCell ⟨bw, 4, none⟩ (.string f4)) bw 3 0 0 0 f4) := Lx.Hd.mk (blk_put Hb3.out 4 _ rfl)
      clear k0 k1 k2 k3 k4 k5 l0 l1 l2 l3 l4 HB Hb3
      have HB := hn_
      have Hb3 := hq_
      clear hn_ hq_
      refine hK.out _ _ (BC.out _ HB.out) (fun hHeld => ?_)
      clear hK K
      refine pu 7 (some 4) (fl 9 255) ?_
      refine pu 8 (some 5) (fl 9 511) ?_
      refine done_ (by kernel_rfl) ?_
      go_wp2
      go_meet
      case rel => exact ⟨_, _, _, _, _, _, rfl, rfl, Lx.Hd.mk (by rw [← HN.out]; exact ask_3 f1 f2 f3 f4 l), Hb3, HB⟩
    by_cases h4 : f0 = 4
    · subst h4
      cases hnm : nameB f4
      · go_upto_region 11 with (fail)
        clear p0 p1 p2 p3 p4 p5 k0 k1 k2 k3 k4 k5 l0 l1 l2 l3 l4
        have HBd := Lx.Hd.mk (below_drew HB.out)
        have Hb3d : Lx.Hd (WB W2.drew bw 4 0 0 0 ⟨#[]⟩) := Lx.Hd.mk Hb3.out
        refine start_ (n := 18) (S := fun w' => CellsN w' bx 4 f1 f2 f3 f4 A5 n c5) (ds := []) (fl 18 0) (by kernel_rfl) rfl rfl (BC.out _ HBd.out) (fun hHeld => ?_)
        clear HB Hb3
        have HB := HBd
        have Hb3 := Hb3d
        clear HBd Hb3d
        refine pu 0 (some 35) (fl 18 1) ?_
        refine pu 2 (some 37) (fl 18 5) ?_
        refine pu 11 (some 46) (fl 18 2053) ?_
        refine tk 1 (some 36) (fl 18 2055) hHeld (hr := by rintro w' ⟨s0, s1, s2, s3, s4, s5⟩; go_simp; with_reducible rfl) (h := ?_)
        refine pu 14 (some 49) (fl 18 18439) ?_
        refine tk 3 (some 38) (fl 18 18447) hHeld (hr := by rintro w' ⟨s0, s1, s2, s3, s4, s5⟩; go_simp; with_reducible rfl) (h := ?_)
        refine tk 12 (some 47) (fl 18 22543) hHeld (hr := by rintro w' ⟨s0, s1, s2, s3, s4, s5⟩; go_simp; with_reducible rfl) (h := ?_)
        refine pu 13 (some 48) (fl 18 30735) ?_
        refine one_ (i := 4) (N := some 39) (fl 18 30751) rfl rfl (by kernel_rfl) (by decide) (fun K hK => ?_)
        refine goes_ Tryd.func82 (by kernel_rfl) rfl #[.string f4] (by rfl) rfl rfl (by (try simp only [List.map_toArray, List.map_cons, List.map_nil]); first | done | rfl) ?_
        with_reducible refine (refWord f4 _ hs).mono ?_
        rw [hnm]; rintro r W3 ⟨rfl, hb⟩
        refine ⟨_, rfl, ?_⟩
        have hn_ : Lx.Hd (Below (bx + 1) W2 W3) := Lx.Hd.mk (HB.out.trans (hb.mono (Nat.le_trans HBs.out HB.out.size)))
        have hq_ : Lx.Hd (WB W3 bw 4 0 0 0 ⟨#[]⟩) := Lx.Hd.mk ((hb.block _ (Nat.lt_of_lt_of_le HBl.out HB.out.size)).trans Hb3.out)
        clear hb HB Hb3
        have HB := hn_
        have Hb3 := hq_
        clear hn_ hq_
        refine hK.out _ _ (BC.out _ HB.out) (fun hHeld => ?_)
        clear hK K
        refine norm_ (a' := ?_) ?_ ?_
        rotate_left; · (show Act.put _ (some 39) _ = _; simp only [Act.put, List.setIfInBounds_toArray, List.set_cons_zero, List.set_cons_succ, i64_w, i32_w]; rfl)
        refine pu 5 (some 40) (fl 18 30783) ?_
        refine po 6 (some 41) (fl 18 30847) ?_
        refine po 7 (some 42) (fl 18 30975) ?_
        refine po 8 (some 43) (fl 18 31231) ?_
        refine po 9 (some 44) (fl 18 31743) ?_
        refine pu 10 (some 45) (fl 18 32767) ?_
        refine one_ (i := 15) (N := none) (fl 18 65535) rfl rfl (by kernel_rfl) (by decide) (fun K hK => ?_)
        obtain ⟨k0, k1, k2, k3, k4, k5, l0, l1, l2, l3, l4⟩ := Hb3.out.cells
        refine skip_ (w1 := ?_) (by rfl) rfl ?_ ?_
        rotate_left
        · go_simp
          rfl
        have hn_ : Lx.Hd (Below (bx + 1) W2 (W3.setCell ⟨bw, 4, none⟩ (.string f4))) := Lx.Hd.mk (HB.out.setCell (p := ⟨bw, 4, none⟩) HBw1.out _)
        have hq_ : Lx.Hd (WB (W3.setCell ⟨bw, 4, none⟩ (.string f4)) bw 4 0 0 0 f4) := Lx.Hd.mk (blk_put Hb3.out 4 _ rfl)
        clear k0 k1 k2 k3 k4 k5 l0 l1 l2 l3 l4 HB Hb3
        have HB := hn_
        have Hb3 := hq_
        clear hn_ hq_
        refine hK.out _ _ (BC.out _ HB.out) (fun hHeld => ?_)
        clear hK K
        refine pu 16 (some 4) (fl 18 131071) ?_
        refine pu 17 (some 5) (fl 18 262143) ?_
        refine done_ (by kernel_rfl) ?_
        go_wp2
        go_meet
        case rel => exact ⟨_, _, _, _, _, _, rfl, rfl, Lx.Hd.mk (by rw [← HN.out]; exact by rw [← ask_4 f1 f2 f3 f4 l, hnm]; rfl), Hb3, HB⟩
      · go_upto_region 11 with (fail)
        clear p0 p1 p2 p3 p4 p5 k0 k1 k2 k3 k4 k5 l0 l1 l2 l3 l4
        have HBd := Lx.Hd.mk (below_drew HB.out)
        have Hb3d : Lx.Hd (WB W2.drew bw 4 0 0 0 ⟨#[]⟩) := Lx.Hd.mk Hb3.out
        refine start_ (n := 18) (S := fun w' => CellsN w' bx 4 f1 f2 f3 f4 A5 n c5) (ds := []) (fl 18 0) (by kernel_rfl) rfl rfl (BC.out _ HBd.out) (fun hHeld => ?_)
        clear HB Hb3
        have HB := HBd
        have Hb3 := Hb3d
        clear HBd Hb3d
        refine pu 0 (some 35) (fl 18 1) ?_
        refine pu 2 (some 37) (fl 18 5) ?_
        refine pu 11 (some 46) (fl 18 2053) ?_
        refine tk 1 (some 36) (fl 18 2055) hHeld (hr := by rintro w' ⟨s0, s1, s2, s3, s4, s5⟩; go_simp; with_reducible rfl) (h := ?_)
        refine pu 14 (some 49) (fl 18 18439) ?_
        refine tk 3 (some 38) (fl 18 18447) hHeld (hr := by rintro w' ⟨s0, s1, s2, s3, s4, s5⟩; go_simp; with_reducible rfl) (h := ?_)
        refine tk 12 (some 47) (fl 18 22543) hHeld (hr := by rintro w' ⟨s0, s1, s2, s3, s4, s5⟩; go_simp; with_reducible rfl) (h := ?_)
        refine pu 13 (some 48) (fl 18 30735) ?_
        refine one_ (i := 4) (N := some 39) (fl 18 30751) rfl rfl (by kernel_rfl) (by decide) (fun K hK => ?_)
        refine goes_ Tryd.func82 (by kernel_rfl) rfl #[.string f4] (by rfl) rfl rfl (by (try simp only [List.map_toArray, List.map_cons, List.map_nil]); first | done | rfl) ?_
        with_reducible refine (refWord f4 _ hs).mono ?_
        rw [hnm]; rintro r W3 ⟨rfl, hb⟩
        refine ⟨_, rfl, ?_⟩
        have hn_ : Lx.Hd (Below (bx + 1) W2 W3) := Lx.Hd.mk (HB.out.trans (hb.mono (Nat.le_trans HBs.out HB.out.size)))
        have hq_ : Lx.Hd (WB W3 bw 4 0 0 0 ⟨#[]⟩) := Lx.Hd.mk ((hb.block _ (Nat.lt_of_lt_of_le HBl.out HB.out.size)).trans Hb3.out)
        clear hb HB Hb3
        have HB := hn_
        have Hb3 := hq_
        clear hn_ hq_
        refine hK.out _ _ (BC.out _ HB.out) (fun hHeld => ?_)
        clear hK K
        refine norm_ (a' := ?_) ?_ ?_
        rotate_left; · (show Act.put _ (some 39) _ = _; simp only [Act.put, List.setIfInBounds_toArray, List.set_cons_zero, List.set_cons_succ, i64_w, i32_w]; rfl)
        refine pu 5 (some 40) (fl 18 30783) ?_
        refine pu 6 (some 41) (fl 18 30847) ?_
        refine tk 7 (some 42) (fl 18 30975) hHeld (hr := by rintro w' ⟨s0, s1, s2, s3, s4, s5⟩; go_simp; with_reducible rfl) (h := ?_)
        refine pu 8 (some 43) (fl 18 31231) ?_
        refine pu 9 (some 44) (fl 18 31743) ?_
        refine pu 10 (some 45) (fl 18 32767) ?_
        refine one_ (i := 15) (N := none) (fl 18 65535) rfl rfl (by kernel_rfl) (by decide) (fun K hK => ?_)
        obtain ⟨k0, k1, k2, k3, k4, k5, l0, l1, l2, l3, l4⟩ := Hb3.out.cells
        refine skip_ (w1 := ?_) (by rfl) rfl ?_ ?_
        rotate_left
        · go_simp
          rfl
        have hn_ : Lx.Hd (Below (bx + 1) W2 (W3.setCell ⟨bw, 4, none⟩ (.string f4))) := Lx.Hd.mk (HB.out.setCell (p := ⟨bw, 4, none⟩) HBw1.out _)
        have hq_ : Lx.Hd (WB (W3.setCell ⟨bw, 4, none⟩ (.string f4)) bw 4 0 0 0 f4) := Lx.Hd.mk (blk_put Hb3.out 4 _ rfl)
        clear k0 k1 k2 k3 k4 k5 l0 l1 l2 l3 l4 HB Hb3
        have HB := hn_
        have Hb3 := hq_
        clear hn_ hq_
        refine hK.out _ _ (BC.out _ HB.out) (fun hHeld => ?_)
        clear hK K
        refine pu 16 (some 4) (fl 18 131071) ?_
        refine pu 17 (some 5) (fl 18 262143) ?_
        refine done_ (by kernel_rfl) ?_
        go_wp2
        go_meet
        case rel => exact ⟨_, _, _, _, _, _, rfl, rfl, Lx.Hd.mk (by rw [← HN.out]; exact by rw [← ask_4 f1 f2 f3 f4 l, hnm]; rfl), Hb3, HB⟩
    by_cases h5 : f0 = 5
    · subst h5
      go_upto_region 13 with (fail)
      clear p0 p1 p2 p3 p4 p5 k0 k1 k2 k3 k4 k5 l0 l1 l2 l3 l4
      have HBd := Lx.Hd.mk (below_drew HB.out)
      have Hb3d : Lx.Hd (WB W2.drew bw 5 0 0 0 ⟨#[]⟩) := Lx.Hd.mk Hb3.out
      refine start_ (n := 10) (S := fun w' => CellsN w' bx 5 f1 f2 f3 f4 A5 n c5) (ds := []) (fl 10 0) (by kernel_rfl) rfl rfl (BC.out _ HBd.out) (fun hHeld => ?_)
      clear HB Hb3
      have HB := HBd
      have Hb3 := Hb3d
      clear HBd Hb3d
      refine pu 0 (some 52) (fl 10 1) ?_
      refine pu 2 (some 54) (fl 10 5) ?_
      refine tk 1 (some 53) (fl 10 7) hHeld (hr := by rintro w' ⟨s0, s1, s2, s3, s4, s5⟩; go_simp; with_reducible rfl) (h := ?_)
      refine pu 6 (some 58) (fl 10 71) ?_
      refine tk 3 (some 55) (fl 10 79) hHeld (hr := by rintro w' ⟨s0, s1, s2, s3, s4, s5⟩; go_simp; with_reducible rfl) (h := ?_)
      refine one_ (i := 4) (N := some 56) (fl 10 95) rfl rfl (by kernel_rfl) (by decide) (fun K hK => ?_)
      refine goes_ Tryd.func114 (by kernel_rfl) rfl #[.int .i64 f1] (by rfl) rfl rfl (by (try simp only [List.map_toArray, List.map_cons, List.map_nil]); first | done | rfl) ?_
      with_reducible refine (refUn f1 _).mono ?_
      rintro r W3 ⟨rfl, hb⟩
      refine ⟨_, rfl, ?_⟩
      have hn_ : Lx.Hd (Below (bx + 1) W2 W3) := Lx.Hd.mk (HB.out.trans (hb.mono (Nat.le_trans HBs.out HB.out.size)))
      have hq_ : Lx.Hd (WB W3 bw 5 0 0 0 ⟨#[]⟩) := Lx.Hd.mk ((hb.block _ (Nat.lt_of_lt_of_le HBl.out HB.out.size)).trans Hb3.out)
      clear hb HB Hb3
      have HB := hn_
      have Hb3 := hq_
      clear hn_ hq_
      refine hK.out _ _ (BC.out _ HB.out) (fun hHeld => ?_)
      clear hK K
      refine norm_ (a' := ?_) ?_ ?_
      rotate_left; · (show Act.put _ (some 56) _ = _; simp only [Act.put, List.setIfInBounds_toArray, List.set_cons_zero, List.set_cons_succ, i64_w, i32_w]; rfl)
      refine pu 5 (some 57) (fl 10 127) ?_
      refine one_ (i := 7) (N := none) (fl 10 255) rfl rfl (by kernel_rfl) (by decide) (fun K hK => ?_)
      obtain ⟨k0, k1, k2, k3, k4, k5, l0, l1, l2, l3, l4⟩ := Hb3.out.cells
      refine skip_ (w1 := ?_) (by rfl) rfl ?_ ?_
      rotate_left
      · go_simp
        rfl
      have hn_ : Lx.Hd (Below (bx + 1) W2 (W3.setCell ⟨bw, 1, none⟩ (.int .i64 f1))) := Lx.Hd.mk (HB.out.setCell (p := ⟨bw, 1, none⟩) HBw1.out _)
      have hq_ : Lx.Hd (WB (W3.setCell ⟨bw, 1, none⟩ (.int .i64 f1)) bw 5 f1 0 0 ⟨#[]⟩) := Lx.Hd.mk (blk_put Hb3.out 1 _ rfl)
      clear k0 k1 k2 k3 k4 k5 l0 l1 l2 l3 l4 HB Hb3
      have HB := hn_
      have Hb3 := hq_
      clear hn_ hq_
      refine hK.out _ _ (BC.out _ HB.out) (fun hHeld => ?_)
      clear hK K
      refine pu 8 (some 4) (fl 10 511) ?_
      refine pu 9 (some 5) (fl 10 1023) ?_
      refine done_ (by kernel_rfl) ?_
      go_wp2
      go_meet
      case rel => exact ⟨_, _, _, _, _, _, rfl, rfl, Lx.Hd.mk (by rw [← HN.out]; exact (by rw [← ne_nil_isEmpty]; exact ask_5 f1 f2 f3 f4 l)), Hb3, HB⟩
    by_cases h6 : f0 = 6
    · subst h6
      go_upto_region 15 with (fail)
      clear p0 p1 p2 p3 p4 p5 k0 k1 k2 k3 k4 k5 l0 l1 l2 l3 l4
      have HBd := Lx.Hd.mk (below_drew HB.out)
      have Hb3d : Lx.Hd (WB W2.drew bw 6 0 0 0 ⟨#[]⟩) := Lx.Hd.mk Hb3.out
      refine start_ (n := 9) (S := fun w' => CellsN w' bx 6 f1 f2 f3 f4 A5 n c5) (ds := []) (fl 9 0) (by kernel_rfl) rfl rfl (BC.out _ HBd.out) (fun hHeld => ?_)
      clear HB Hb3
      have HB := HBd
      have Hb3 := Hb3d
      clear HBd Hb3d
      refine pu 0 (some 61) (fl 9 1) ?_
      refine pu 2 (some 63) (fl 9 5) ?_
      refine tk 1 (some 62) (fl 9 7) hHeld (hr := by rintro w' ⟨s0, s1, s2, s3, s4, s5⟩; go_simp; with_reducible rfl) (h := ?_)
      refine pu 5 (some 66) (fl 9 39) ?_
      refine tk 3 (some 64) (fl 9 47) hHeld (hr := by rintro w' ⟨s0, s1, s2, s3, s4, s5⟩; go_simp; with_reducible rfl) (h := ?_)
      refine one_ (i := 4) (N := some 65) (fl 9 63) rfl rfl (by kernel_rfl) (by decide) (fun K hK => ?_)
      refine goes_ Tryd.func115 (by kernel_rfl) rfl #[.int .i64 f1] (by rfl) rfl rfl (by (try simp only [List.map_toArray, List.map_cons, List.map_nil]); first | done | rfl) ?_
      with_reducible refine (refBin f1 _).mono ?_
      rintro r W3 ⟨rfl, hb⟩
      refine ⟨_, rfl, ?_⟩
      have hn_ : Lx.Hd (Below (bx + 1) W2 W3) := Lx.Hd.mk (HB.out.trans (hb.mono (Nat.le_trans HBs.out HB.out.size)))
      have hq_ : Lx.Hd (WB W3 bw 6 0 0 0 ⟨#[]⟩) := Lx.Hd.mk ((hb.block _ (Nat.lt_of_lt_of_le HBl.out HB.out.size)).trans Hb3.out)
      clear hb HB Hb3
      have HB := hn_
      have Hb3 := hq_
      clear hn_ hq_
      refine hK.out _ _ (BC.out _ HB.out) (fun hHeld => ?_)
      clear hK K
      refine norm_ (a' := ?_) ?_ ?_
      rotate_left; · (show Act.put _ (some 65) _ = _; simp only [Act.put, List.setIfInBounds_toArray, List.set_cons_zero, List.set_cons_succ, i64_w, i32_w]; rfl)
      refine one_ (i := 6) (N := none) (fl 9 127) rfl rfl (by kernel_rfl) (by decide) (fun K hK => ?_)
      obtain ⟨k0, k1, k2, k3, k4, k5, l0, l1, l2, l3, l4⟩ := Hb3.out.cells
      refine skip_ (w1 := ?_) (by rfl) rfl ?_ ?_
      rotate_left
      · go_simp
        rfl
      have hn_ : Lx.Hd (Below (bx + 1) W2 (W3.setCell ⟨bw, 1, none⟩ (.int .i64 f1))) := Lx.Hd.mk (HB.out.setCell (p := ⟨bw, 1, none⟩) HBw1.out _)
      have hq_ : Lx.Hd (WB (W3.setCell ⟨bw, 1, none⟩ (.int .i64 f1)) bw 6 f1 0 0 ⟨#[]⟩) := Lx.Hd.mk (blk_put Hb3.out 1 _ rfl)
      clear k0 k1 k2 k3 k4 k5 l0 l1 l2 l3 l4 HB Hb3
      have HB := hn_
      have Hb3 := hq_
      clear hn_ hq_
      refine hK.out _ _ (BC.out _ HB.out) (fun hHeld => ?_)
      clear hK K
      refine pu 7 (some 4) (fl 9 255) ?_
      refine pu 8 (some 5) (fl 9 511) ?_
      refine done_ (by kernel_rfl) ?_
      go_wp2
      go_meet
      case rel => exact ⟨_, _, _, _, _, _, rfl, rfl, Lx.Hd.mk (by rw [← HN.out]; exact ask_6 f1 f2 f3 f4 l), Hb3, HB⟩
    by_cases h7 : f0 = 7
    · subst h7
      go_upto_region 17 with (fail)
      clear p0 p1 p2 p3 p4 p5 k0 k1 k2 k3 k4 k5 l0 l1 l2 l3 l4
      have HBd := Lx.Hd.mk (below_drew HB.out)
      have Hb3d : Lx.Hd (WB W2.drew bw 7 0 0 0 ⟨#[]⟩) := Lx.Hd.mk Hb3.out
      refine start_ (n := 9) (S := fun w' => CellsN w' bx 7 f1 f2 f3 f4 A5 n c5) (ds := []) (fl 9 0) (by kernel_rfl) rfl rfl (BC.out _ HBd.out) (fun hHeld => ?_)
      clear HB Hb3
      have HB := HBd
      have Hb3 := Hb3d
      clear HBd Hb3d
      refine pu 0 (some 69) (fl 9 1) ?_
      refine pu 2 (some 71) (fl 9 5) ?_
      refine tk 1 (some 70) (fl 9 7) hHeld (hr := by rintro w' ⟨s0, s1, s2, s3, s4, s5⟩; go_simp; with_reducible rfl) (h := ?_)
      refine pu 5 (some 74) (fl 9 39) ?_
      refine tk 3 (some 72) (fl 9 47) hHeld (hr := by rintro w' ⟨s0, s1, s2, s3, s4, s5⟩; go_simp; with_reducible rfl) (h := ?_)
      refine one_ (i := 4) (N := some 73) (fl 9 63) rfl rfl (by kernel_rfl) (by decide) (fun K hK => ?_)
      refine goes_ Tryd.func83 (by kernel_rfl) rfl #[.int .i64 f2] (by rfl) rfl rfl (by (try simp only [List.map_toArray, List.map_cons, List.map_nil]); first | done | rfl) ?_
      with_reducible refine (refTy f2 _).mono ?_
      rintro r W3 ⟨rfl, hb⟩
      refine ⟨_, rfl, ?_⟩
      have hn_ : Lx.Hd (Below (bx + 1) W2 W3) := Lx.Hd.mk (HB.out.trans (hb.mono (Nat.le_trans HBs.out HB.out.size)))
      have hq_ : Lx.Hd (WB W3 bw 7 0 0 0 ⟨#[]⟩) := Lx.Hd.mk ((hb.block _ (Nat.lt_of_lt_of_le HBl.out HB.out.size)).trans Hb3.out)
      clear hb HB Hb3
      have HB := hn_
      have Hb3 := hq_
      clear hn_ hq_
      refine hK.out _ _ (BC.out _ HB.out) (fun hHeld => ?_)
      clear hK K
      refine norm_ (a' := ?_) ?_ ?_
      rotate_left; · (show Act.put _ (some 73) _ = _; simp only [Act.put, List.setIfInBounds_toArray, List.set_cons_zero, List.set_cons_succ, i64_w, i32_w]; rfl)
      refine one_ (i := 6) (N := none) (fl 9 127) rfl rfl (by kernel_rfl) (by decide) (fun K hK => ?_)
      obtain ⟨k0, k1, k2, k3, k4, k5, l0, l1, l2, l3, l4⟩ := Hb3.out.cells
      refine skip_ (w1 := ?_) (by rfl) rfl ?_ ?_
      rotate_left
      · go_simp
        rfl
      have hn_ : Lx.Hd (Below (bx + 1) W2 (W3.setCell ⟨bw, 2, none⟩ (.int .i64 f2))) := Lx.Hd.mk (HB.out.setCell (p := ⟨bw, 2, none⟩) HBw1.out _)
      have hq_ : Lx.Hd (WB (W3.setCell ⟨bw, 2, none⟩ (.int .i64 f2)) bw 7 0 f2 0 ⟨#[]⟩) := Lx.Hd.mk (blk_put Hb3.out 2 _ rfl)
      clear k0 k1 k2 k3 k4 k5 l0 l1 l2 l3 l4 HB Hb3
      have HB := hn_
      have Hb3 := hq_
      clear hn_ hq_
      refine hK.out _ _ (BC.out _ HB.out) (fun hHeld => ?_)
      clear hK K
      refine pu 7 (some 4) (fl 9 255) ?_
      refine pu 8 (some 5) (fl 9 511) ?_
      refine done_ (by kernel_rfl) ?_
      go_wp2
      go_meet
      case rel => exact ⟨_, _, _, _, _, _, rfl, rfl, Lx.Hd.mk (by rw [← HN.out]; exact ask_7 f1 f2 f3 f4 l), Hb3, HB⟩
    go_wp2
    go_meet
    case rel => exact ⟨false, 0, 0, 0, 0, ⟨#[]⟩, rfl, rfl, Lx.Hd.mk (by rw [← HN.out]; exact ask_0 f0 f1 f2 f3 f4 l h1 h2 h3 h4 h5 h6 h7), Hb3, HB⟩
  case rest =>
    obtain ⟨is, m, g1, g2, g3, g4, rfl, rfl, HA, HbW, HBW⟩ := hcut
    clear p0 p1 p2 p3 p4 p5 k0 k1 k2 k3 k4 k5 l0 l1 l2 l3 l4 HB Hb3
    have HB := HBW
    clear HBW
    obtain ⟨p0, p1, p2, p3, p4, p5⟩ := BC.out _ HB.out
    obtain ⟨k0, k1, k2, k3, k4, k5, l0, l1, l2, l3, l4⟩ := HbW.out.cells
    have HBw : Lx.Hd (Below w.heap.size w wc) := Lx.Hd.mk (HB0.out.trans (by rw [← HX.out]; exact ⟨HB.out.os, HB.out.tape, HB.out.output, HB.out.size, fun j hj => HB.out.block j (Nat.lt_succ_of_lt hj)⟩))
    clear HBl HBw1
    cases is
    · go_wp2
      go_ret
      exact ⟨by rw [← HA.out]; rfl, HBw.out⟩
    by_cases t1 : (n : Int) = m
    rotate_left
    · go_wp2
      go_ret
      exact ⟨by rw [← HA.out]; simp [askE, t1], HBw.out⟩
    by_cases t2 : g1 = f1
    rotate_left
    · go_wp2
      go_ret
      exact ⟨by rw [← HA.out]; simp [askE, t2], HBw.out⟩
    by_cases t3 : g2 = f2
    rotate_left
    · go_wp2
      go_ret
      exact ⟨by rw [← HA.out]; simp [askE, t3], HBw.out⟩
    by_cases t4 : g3 = f3
    rotate_left
    · go_wp2
      go_ret
      exact ⟨by rw [← HA.out]; simp [askE, t4], HBw.out⟩
    cases t5 : g4.toList == f4.toList
    · go_wp2
      go_ret
      exact ⟨by rw [← HA.out]; simp [askE, t5], HBw.out⟩
    have HE : Lx.Hd (exprB ⟨f0, f1, f2, f3, f4, l⟩ = true) := Lx.Hd.mk (by rw [← HA.out]; simp [askE, t1, t2, t3, t4, t5])
    go_upto_region 20 with (fail)
    clear HA HbW k0 k1 k2 k3 k4 k5 l0 l1 l2 l3 l4 t1 t2 t3 t4 t5 HBw
    go_wp2
    go_loopw [6] (fun t6 wr => ∃ i : Nat, i ≤ n ∧ t6 = .int .i64 i ∧ Lx.Hd ((l.take i).all (fun x => rightN (.ex x)) = true) ∧ Lx.Hd (Below (bx + 1) W2 wr)) (fun t6 _ => n - (intOf t6).toNat)
    case atStart => exact ⟨0, Nat.zero_le _, rfl, Lx.Hd.mk rfl, HB⟩
    case round =>
      clear p0 p1 p2 p3 p4 p5 HB
      obtain ⟨i, hi, rfl, HAL, HB⟩ := hrel
      have HBw : Lx.Hd (Below w.heap.size w wr) := Lx.Hd.mk (HB0.out.trans (by rw [← HX.out]; exact ⟨HB.out.os, HB.out.tape, HB.out.output, HB.out.size, fun j hj => HB.out.block j (Nat.lt_succ_of_lt hj)⟩))
      by_cases hlt : i < n
      · have hll : i < l.length := by rw [HN.out]; exact hlt
        obtain ⟨ad, A', c', rfl, q0, q1, q2, q3, q4, q5, k5, g5⟩ := at_T25 (show kE.C w A5 l.length l from HR.out.1) i (by omega) (by omega)
        have ex : rd_T25 l i = l[i] := by unfold rd_T25; rw [Int.toNat_natCast, List.getD_eq_getElem?_getD, List.getElem?_eq_getElem hll]; rfl
        rw [ex] at q0 q1 q2 q3 q4 q5 k5 g5
        rw [Int.toNat_natCast] at q0 q1 q2 q3 q4 q5
        have hm : l[i] ∈ l := List.getElem_mem hll
        have hst := IH.out l[i] hm
        unfold RefAt at hst
        have HT : Lx.Hd (l.take (i + 1) = l.take i ++ [l[i]]) := Lx.Hd.mk (by rw [List.take_succ_eq_append_getElem hll])
        generalize l[i] = x at *
        clear ex
        have HM := Lx.Hd.mk hm
        have HK : Lx.Hd (∀ W, Below w.heap.size w W → Calls Tryd.prog 86 #[.agg #[.int .i64 x.f0, .int .i64 x.f1, .int .i64 x.f2, .int .u32 x.f3, .string x.f4, .slice A' x.f5.length c']] W fun r W' => r = .returned (.bool (rightN (.ex x))) ∧ Below W.heap.size W W') := Lx.Hd.mk fun W hb => hst A' c' W (RowsE.below ⟨g5, k5⟩ hb)
        clear hst hm
        have r0 := pw_cell_below HBw.out q0
        have r1 := pw_cell_below HBw.out q1
        have r2 := pw_cell_below HBw.out q2
        have r3 := pw_cell_below HBw.out q3
        have r4 := pw_cell_below HBw.out q4
        have r5 := pw_cell_below HBw.out q5
        obtain ⟨p0, p1, p2, p3, p4, p5⟩ := BC.out _ HB.out
        clear q0 q1 q2 q3 q4 q5 g5
        cases hx : rightN (.ex x)
        all_goals
          go_wp2_with (first | (go_at_call 86; (with_reducible refine (HK.out _ HBw.out).mono ?_); rw [hx]; rintro r W3 ⟨rfl, hb⟩; have HB3 : Lx.Hd (Below (bx + 1) W2 W3) := Lx.Hd.mk (HB.out.trans (hb.mono (by rw [HX.out]; exact Nat.le_trans (by have := HBs.out; rw [HX.out] at this; exact this) HB.out.size))); have HB4 : Lx.Hd (Below w.heap.size w W3) := Lx.Hd.mk (below_step HBw.out hb); clear hb) | fail)
        · go_ret
          refine ⟨?_, HB4.out⟩
          have hf : l.all (fun x => rightN (.ex x)) = false := by rw [List.all_eq_false]; exact ⟨x, HM.out, by rw [hx]; simp⟩
          rw [hf, Bool.and_false]; rfl
        · exact ⟨⟨i + 1, hlt, by go_num, Lx.Hd.mk (by rw [HT.out, List.all_append, HAL.out]; simp [hx]), HB3⟩, by simp [intOf]; omega⟩
      · obtain ⟨p0, p1, p2, p3, p4, p5⟩ := BC.out _ HB.out
        go_wp2
        go_ret
        refine ⟨?_, HBw.out⟩
        have hf : l.all (fun x => rightN (.ex x)) = true := by rw [← List.take_length (l := l), HN.out, ← (show i = n by omega)]; exact HAL.out
        rw [hf, HE.out]; rfl
theorem all_right : ∀ l : List SE, l.all (fun x => rightN (.ex x)) = rightEs exprB l
  | [] => rfl
  | x :: l => by rw [List.all_cons, rightEs, all_right l]; rfl
theorem refExpr : ∀ (D : Nat) (x : SE), deepE x ≤ D → AllN szN (.ex x) → RefAt x
  | 0, ⟨_, _, _, _, _, l⟩, h, _ => by rw [deepE] at h; omega
  | D + 1, ⟨a0, a1, a2, a3, a4, l⟩, h, hP => by
    rw [deepE] at h
    intro A c W hR
    have := refExpr_step a0 a1 a2 a3 a4 l A c W hR hP.own fun x hx => refExpr D x (by have := deep_mem_E hx; omega) (hP.kid (y := .ex x) (List.mem_map.2 ⟨x, hx, rfl⟩))
    rw [all_right] at this
    exact this
end Go.Proofs.YtgkhpecllhiidaaDoor.A
