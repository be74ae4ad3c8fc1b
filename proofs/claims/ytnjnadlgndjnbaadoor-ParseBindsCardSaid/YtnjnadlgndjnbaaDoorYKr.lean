/- The kit's Expr and Exprs: are two trees the same. -/
import Derived.Test.YtnjnadlgndjnbaaDoorYBb
import Derived.Test.YtnjnadlgndjnbaaDoorYGu
set_option linter.unusedVariables false
set_option linter.unusedSimpArgs false
namespace Go.Proofs.YtnjnadlgndjnbaaDoor.A
open Go.RowKit Go.Shelf Go.Proofs.YtnjnadlgndjnbaaDoor.As Go.Proofs.YtnjnadlgndjnbaaDoorW.PrintWords Go.Proofs.YtnjnadlgndjnbaaDoorW.PrintLast Go.Proofs.YtnjnadlgndjnbaaDoorW.PrintMore
theorem sameE_eqR (x y : SE) : sameE x y = (x.f0 == y.f0 && (x.f1 == y.f1 && (x.f2 == y.f2 && (x.f3 == y.f3 && (x.f4.toList == y.f4.toList && eqL sameE x.f5 y.f5))))) := by
  rw [sameE_eq]; unfold sameB; simp only [Bool.and_assoc]
def SameAtK (x y : SE) : Prop := ∀ (A5 : Option Addr) (c5 : Nat) (B5 : Option Addr) (d5 : Nat) (W : World), RowsE W x A5 c5 → RowsE W y B5 d5 →
  Calls Tryd.prog 8 #[.agg #[.int .i64 x.f0, .int .i64 x.f1, .int .i64 x.f2, .int .u32 x.f3, .string x.f4, .slice A5 x.f5.length c5], .agg #[.int .i64 y.f0, .int .i64 y.f1, .int .i64 y.f2, .int .u32 y.f3, .string y.f4, .slice B5 y.f5.length d5]] W fun e W' => e = .returned (.bool (sameE x y)) ∧ Below W.heap.size W W'
set_option maxRecDepth 100000 in
set_option maxHeartbeats 4000000 in
theorem kitExprs (A1 A2 : Option Addr) (c1 c2 : Nat) (l m : List SE) (w : World) (h1 : kE.C w A1 l.length l) (h2 : kE.C w A2 m.length m) (hf : ∀ x ∈ l, ∀ y, SameAtK x y) :
    Calls Tryd.prog 22 #[.slice A1 l.length c1, .slice A2 m.length c2] w fun e w' => e = .returned (.bool (eqL sameE l m)) ∧ Below w.heap.size w w' := by
  have l1 : l.length ≤ 9223372036854775807 := h1.2.1
  have l2 : m.length ≤ 9223372036854775807 := h2.2.1
  have H1 := Lx.Hd.mk h1
  have H2 := Lx.Hd.mk h2
  have HF := Lx.Hd.mk hf
  clear h1 h2 hf
  by_cases hne : l.length = m.length
  · have hn : ((l.length : Int) != (m.length : Int)) = false := by rw [hne]; simp
    go_enter Tryd.func22, Tryd.ntmps22
    go_wp2
    go_loopw [5] (fun t5 wr => ∃ i : Nat, i ≤ l.length ∧ t5 = .int .i64 i ∧ eqL sameE l m = eqL sameE (l.drop i) (m.drop i) ∧ Below w.heap.size w wr) (fun t5 _ => l.length - (intOf t5).toNat)
    case atStart => exact ⟨0, Nat.zero_le _, rfl, rfl, Below.refl _ _⟩
    case round =>
      have HNE := Lx.Hd.mk hne
      obtain ⟨i, hi, rfl, hS, hB⟩ := hrel
      by_cases hlt : i < l.length
      · clear hne
        have hlm : i < m.length := by have := HNE.out; omega
        obtain ⟨ad1, A5, c5, rfl, p0, p1, p2, p3, p4, p5, k5, g5⟩ := at_T26 H1.out i (by omega) (by omega)
        obtain ⟨ad2, B5, d5, rfl, q0, q1, q2, q3, q4, q5, m5, n5⟩ := at_T26 H2.out i (by omega) (by omega)
        have ex : rd_T26 l i = l[i] := by unfold rd_T26; rw [Int.toNat_natCast, List.getD_eq_getElem?_getD, List.getElem?_eq_getElem hlt]; rfl
        have ey : rd_T26 m i = m[i] := by unfold rd_T26; rw [Int.toNat_natCast, List.getD_eq_getElem?_getD, List.getElem?_eq_getElem hlm]; rfl
        rw [ex] at p0 p1 p2 p3 p4 p5 k5 g5
        rw [ey] at q0 q1 q2 q3 q4 q5 m5 n5
        rw [Int.toNat_natCast] at p0 p1 p2 p3 p4 p5 q0 q1 q2 q3 q4 q5
        rw [List.drop_eq_getElem_cons hlt, List.drop_eq_getElem_cons hlm, eqL] at hS
        have hst := HF.out l[i] (List.getElem_mem hlt) m[i]
        unfold SameAtK at hst
        have HSt := Lx.Hd.mk hst
        clear hst
        generalize l[i] = x at *
        generalize m[i] = y at *
        clear ex ey
        have HB := Lx.Hd.mk hB
        have HS := Lx.Hd.mk hS
        have HG1 : Lx.Hd (RowsE w x A5 c5) := Lx.Hd.mk ⟨g5, k5⟩
        have HG2 : Lx.Hd (RowsE w y B5 d5) := Lx.Hd.mk ⟨n5, m5⟩
        have HP := Lx.Hd.mk (And.intro (And.intro p0 (And.intro p1 (And.intro p2 (And.intro p3 (And.intro p4 p5))))) (And.intro q0 (And.intro q1 (And.intro q2 (And.intro q3 (And.intro q4 q5))))))
        clear p0 p1 p2 p3 p4 p5 q0 q1 q2 q3 q4 q5 hB hS g5 k5 n5 m5
        go_upto_region 6 with (fail)
        have HBd := Lx.Hd.mk (below_drew HB.out)
        refine start_ (n := 10) (S := fun w' => w'.cell? (ad1.add (i * 6)) = some (.int .i64 x.f0) ∧ w'.cell? ⟨(ad1.add (i * 6)).block, (ad1.add (i * 6)).off + 1, none⟩ = some (.int .i64 x.f1) ∧ w'.cell? ⟨(ad1.add (i * 6)).block, (ad1.add (i * 6)).off + 2, none⟩ = some (.int .i64 x.f2) ∧ w'.cell? ⟨(ad1.add (i * 6)).block, (ad1.add (i * 6)).off + 3, none⟩ = some (.int .u32 x.f3) ∧ w'.cell? ⟨(ad1.add (i * 6)).block, (ad1.add (i * 6)).off + 4, none⟩ = some (.string x.f4) ∧ w'.cell? ⟨(ad1.add (i * 6)).block, (ad1.add (i * 6)).off + 5, none⟩ = some (.slice A5 x.f5.length c5) ∧ w'.cell? (ad2.add (i * 6)) = some (.int .i64 y.f0) ∧ w'.cell? ⟨(ad2.add (i * 6)).block, (ad2.add (i * 6)).off + 1, none⟩ = some (.int .i64 y.f1) ∧ w'.cell? ⟨(ad2.add (i * 6)).block, (ad2.add (i * 6)).off + 2, none⟩ = some (.int .i64 y.f2) ∧ w'.cell? ⟨(ad2.add (i * 6)).block, (ad2.add (i * 6)).off + 3, none⟩ = some (.int .u32 y.f3) ∧ w'.cell? ⟨(ad2.add (i * 6)).block, (ad2.add (i * 6)).off + 4, none⟩ = some (.string y.f4) ∧ w'.cell? ⟨(ad2.add (i * 6)).block, (ad2.add (i * 6)).off + 5, none⟩ = some (.slice B5 y.f5.length d5)) (ds := []) (fl 10 0) (by kernel_rfl) rfl rfl ⟨pw_cell_below HBd.out HP.out.1.1, pw_cell_below HBd.out HP.out.1.2.1, pw_cell_below HBd.out HP.out.1.2.2.1, pw_cell_below HBd.out HP.out.1.2.2.2.1, pw_cell_below HBd.out HP.out.1.2.2.2.2.1, pw_cell_below HBd.out HP.out.1.2.2.2.2.2, pw_cell_below HBd.out HP.out.2.1, pw_cell_below HBd.out HP.out.2.2.1, pw_cell_below HBd.out HP.out.2.2.2.1, pw_cell_below HBd.out HP.out.2.2.2.2.1, pw_cell_below HBd.out HP.out.2.2.2.2.2.1, pw_cell_below HBd.out HP.out.2.2.2.2.2.2⟩ (fun hHeld => ?_)
        clear HB
        have HB := HBd
        clear HBd
        refine pure_ (i := 0) (N := some 17) (v := ?_) (a' := ?_) (fl 10 1) rfl rfl (by kernel_rfl) (fun _ _ _ h => h) (Or.inl ⟨by rfl, ?_⟩) ?_ ?_
        rotate_left; · (intro w'; go_simp; with_reducible rfl)
        rotate_left; · (simp only [Act.put, List.setIfInBounds_toArray, List.set_cons_zero, List.set_cons_succ, i64_w, i32_w]; rfl)
        refine pure_ (i := 1) (N := some 18) (v := ?_) (a' := ?_) (fl 10 3) rfl rfl (by kernel_rfl) (fun _ _ _ h => h) (Or.inl ⟨by rfl, ?_⟩) ?_ ?_
        rotate_left; · (intro w'; go_simp; with_reducible rfl)
        rotate_left; · (simp only [Act.put, List.setIfInBounds_toArray, List.set_cons_zero, List.set_cons_succ, i64_w, i32_w]; rfl)
        refine pure_ (i := 2) (N := some 19) (v := ?_) (a' := ?_) (fl 10 7) rfl rfl (by kernel_rfl) (fun _ _ _ h => h) (Or.inl ⟨by rfl, ?_⟩) ?_ ?_
        rotate_left; · (intro w'; go_simp; with_reducible rfl)
        rotate_left; · (simp only [Act.put, List.setIfInBounds_toArray, List.set_cons_zero, List.set_cons_succ, i64_w, i32_w]; rfl)
        refine pure_ (i := 4) (N := some 21) (v := ?_) (a' := ?_) (fl 10 23) rfl rfl (by kernel_rfl) (fun _ _ _ h => h) (Or.inl ⟨by rfl, ?_⟩) ?_ ?_
        rotate_left; · (intro w'; go_simp; with_reducible rfl)
        rotate_left; · (simp only [Act.put, List.setIfInBounds_toArray, List.set_cons_zero, List.set_cons_succ, i64_w, i32_w]; rfl)
        refine pure_ (i := 5) (N := some 22) (v := ?_) (a' := ?_) (fl 10 55) rfl rfl (by kernel_rfl) (fun _ _ _ h => h) (Or.inl ⟨by rfl, ?_⟩) ?_ ?_
        rotate_left; · (intro w'; go_simp; with_reducible rfl)
        rotate_left; · (simp only [Act.put, List.setIfInBounds_toArray, List.set_cons_zero, List.set_cons_succ, i64_w, i32_w]; rfl)
        refine pure_ (i := 6) (N := some 23) (v := ?_) (a' := ?_) (fl 10 119) rfl rfl (by kernel_rfl) (fun _ _ _ h => h) (Or.inl ⟨by rfl, ?_⟩) ?_ ?_
        rotate_left; · (intro w'; go_simp; with_reducible rfl)
        rotate_left; · (simp only [Act.put, List.setIfInBounds_toArray, List.set_cons_zero, List.set_cons_succ, i64_w, i32_w]; rfl)
        refine take_ (i := 3) (N := some 20) (v := ?_) (a' := ?_) (fl 10 127) rfl rfl (by kernel_rfl) (fun _ _ _ h => h) (Or.inl ⟨by rfl, ?_⟩) hHeld ?_ ?_
        rotate_left; · (rintro w' ⟨s0, s1, s2, s3, s4, s5, s6, s7, s8, s9, s10, s11⟩; go_simp; with_reducible rfl)
        rotate_left; · (simp only [Act.put, List.setIfInBounds_toArray, List.set_cons_zero, List.set_cons_succ, i64_w, i32_w]; rfl)
        refine take_ (i := 7) (N := some 24) (v := ?_) (a' := ?_) (fl 10 255) rfl rfl (by kernel_rfl) (fun _ _ _ h => h) (Or.inl ⟨by rfl, ?_⟩) hHeld ?_ ?_
        rotate_left; · (rintro w' ⟨s0, s1, s2, s3, s4, s5, s6, s7, s8, s9, s10, s11⟩; go_simp; with_reducible rfl)
        rotate_left; · (simp only [Act.put, List.setIfInBounds_toArray, List.set_cons_zero, List.set_cons_succ, i64_w, i32_w]; rfl)
        refine one_ (i := 8) (N := some 25) (fl 10 511) rfl rfl (by kernel_rfl) (by decide) (fun K hK => ?_)
        refine goes_ Tryd.func8 (by kernel_rfl) rfl #[.agg #[.int .i64 x.f0, .int .i64 x.f1, .int .i64 x.f2, .int .u32 x.f3, .string x.f4, .slice A5 x.f5.length c5], .agg #[.int .i64 y.f0, .int .i64 y.f1, .int .i64 y.f2, .int .u32 y.f3, .string y.f4, .slice B5 y.f5.length d5]] (by rfl) rfl rfl (by (try simp only [List.map_toArray, List.map_cons, List.map_nil]); first | done | rfl) ?_
        with_reducible refine (HSt.out A5 c5 B5 d5 _ ?s1 ?s2).mono ?_
        (case s1 => exact RowsE.below HG1.out HB.out)
        (case s2 => exact RowsE.below HG2.out HB.out)
        rintro r W3 ⟨rfl, hb⟩
        refine ⟨_, rfl, ?_⟩
        replace HB := bst HB hb
        clear hb
        refine hK.out _ _ ⟨pw_cell_below HB.out HP.out.1.1, pw_cell_below HB.out HP.out.1.2.1, pw_cell_below HB.out HP.out.1.2.2.1, pw_cell_below HB.out HP.out.1.2.2.2.1, pw_cell_below HB.out HP.out.1.2.2.2.2.1, pw_cell_below HB.out HP.out.1.2.2.2.2.2, pw_cell_below HB.out HP.out.2.1, pw_cell_below HB.out HP.out.2.2.1, pw_cell_below HB.out HP.out.2.2.2.1, pw_cell_below HB.out HP.out.2.2.2.2.1, pw_cell_below HB.out HP.out.2.2.2.2.2.1, pw_cell_below HB.out HP.out.2.2.2.2.2.2⟩ (fun hHeld => ?_)
        clear hK K
        refine norm_ (a' := ?_) ?_ ?_
        rotate_left; · (show Act.put _ (some 25) _ = _; simp only [Act.put, List.setIfInBounds_toArray, List.set_cons_zero, List.set_cons_succ, i64_w, i32_w]; rfl)
        refine pure_ (i := 9) (N := some 26) (v := ?_) (a' := ?_) (fl 10 1023) rfl rfl (by kernel_rfl) (fun _ _ _ h => h) (Or.inl ⟨by rfl, ?_⟩) ?_ ?_
        rotate_left; · (intro w'; go_simp; with_reducible rfl)
        rotate_left; · (simp only [Act.put, List.setIfInBounds_toArray, List.set_cons_zero, List.set_cons_succ, i64_w, i32_w]; rfl)
        refine done_ (by kernel_rfl) ?_
        rename_i hHeld_
        clear hHeld_
        cases hsm : sameE x y
        · go_wp2
          go_ret
          exact ⟨by rw [HS.out, hsm]; rfl, HB.out⟩
        · go_wp2
          exact ⟨⟨i + 1, hlt, by go_num, by rw [HS.out, hsm, Bool.true_and], HB.out⟩, by simp [intOf]; omega⟩
      · have hil : i = l.length := by omega
        rw [hil, List.drop_length, HNE.out, List.drop_length] at hS
        have HS := Lx.Hd.mk hS
        have HB := Lx.Hd.mk hB
        clear hS hB
        go_wp2
        go_ret
        exact ⟨by rw [HS.out]; rfl, HB.out⟩
  · have hn : ((l.length : Int) != (m.length : Int)) = true := by simp; omega
    go_enter Tryd.func22, Tryd.ntmps22
    go_wp2
    go_ret
    exact ⟨by rw [eqL_len sameE l m hne]; rfl, Below.refl _ _⟩
set_option maxRecDepth 100000 in
set_option maxHeartbeats 8000000 in
theorem kitExpr_step (x y : SE) (A5 : Option Addr) (c5 : Nat) (B5 : Option Addr) (d5 : Nat) (w : World) (hA : RowsE w x A5 c5) (hB : RowsE w y B5 d5) (hf : ∀ a ∈ x.f5, ∀ b, SameAtK a b) :
    Calls Tryd.prog 8 #[.agg #[.int .i64 x.f0, .int .i64 x.f1, .int .i64 x.f2, .int .u32 x.f3, .string x.f4, .slice A5 x.f5.length c5], .agg #[.int .i64 y.f0, .int .i64 y.f1, .int .i64 y.f2, .int .u32 y.f3, .string y.f4, .slice B5 y.f5.length d5]] w fun e w' => e = .returned (.bool (sameE x y)) ∧ Below w.heap.size w w' := by
  have HC := Lx.Hd.mk (And.intro hA hB)
  clear hA hB
  have HX0 := Lx.Hd.mk hf
  clear hf
  go_enter Tryd.func8, Tryd.ntmps8
  go_upto_region 1 with (fail)
  refine name_world fun W2 hW2 => ?_
  have HB0 : Lx.Hd (Below w.heap.size w W2) := Lx.Hd.mk (by rw [hW2]; exact below_alloc (below_alloc (Below.refl _ _) _) _)
  have z1 : (w.alloc (.cells #[.int .i64 x.f0, .int .i64 x.f1, .int .i64 x.f2, .int .u32 x.f3, .string x.f4, .slice A5 x.f5.length c5] 26)).heap.size = w.heap.size + 1 := by simp
  have hb1 : W2.heap[w.heap.size]? = some (.cells #[.int .i64 x.f0, .int .i64 x.f1, .int .i64 x.f2, .int .u32 x.f3, .string x.f4, .slice A5 x.f5.length c5] 26 (0, 0)) := by rw [hW2]; exact blk_alloc (World.alloc_heap_new w _) _
  have hb2 : W2.heap[w.heap.size + 1]? = some (.cells #[.int .i64 y.f0, .int .i64 y.f1, .int .i64 y.f2, .int .u32 y.f3, .string y.f4, .slice B5 y.f5.length d5] 26 (0, 0)) := by rw [hW2, ← z1]; exact World.alloc_heap_new _ _
  have BC1 := Lx.Hd.mk (bkE_of hb1)
  have BC2 := Lx.Hd.mk (bkE_of hb2)
  have HC2 : Lx.Hd (RowsE W2 x A5 c5 ∧ RowsE W2 y B5 d5) := Lx.Hd.mk ⟨RowsE.below HC.out.1 HB0.out, RowsE.below HC.out.2 HB0.out⟩
  have HB : Lx.Hd (Below W2.heap.size W2 W2) := Lx.Hd.mk (Below.refl _ _)
  clear hW2 z1 hb1 hb2 HC
  generalize w.heap.size = bx at BC1 BC2 ⊢
  obtain ⟨p0, p1, p2, p3, p4, p5⟩ := BC1.out _ HB.out
  obtain ⟨q0, q1, q2, q3, q4, q5⟩ := BC2.out _ HB.out
  cases hs0 : x.f0 == y.f0
  · go_wp2_with (first | fail)
    go_ret
    exact ⟨by rw [sameE_eqR, hs0]; rfl, bto HB0 HB⟩
  cases hs1 : x.f1 == y.f1
  · go_wp2_with (first | fail)
    go_ret
    exact ⟨by rw [sameE_eqR, hs0, hs1]; rfl, bto HB0 HB⟩
  cases hs2 : x.f2 == y.f2
  · go_wp2_with (first | fail)
    go_ret
    exact ⟨by rw [sameE_eqR, hs0, hs1, hs2]; rfl, bto HB0 HB⟩
  cases hs3 : x.f3 == y.f3
  · go_wp2_with (first | fail)
    go_ret
    exact ⟨by rw [sameE_eqR, hs0, hs1, hs2, hs3]; rfl, bto HB0 HB⟩
  cases hs4 : x.f4.toList == y.f4.toList
  · go_wp2_with (first | fail)
    go_ret
    exact ⟨by rw [sameE_eqR, hs0, hs1, hs2, hs3, hs4]; rfl, bto HB0 HB⟩
  cases hs5 : eqL sameE x.f5 y.f5
  · go_wp2_with (first | (go_at_call 22; (with_reducible refine (kitExprs A5 B5 c5 d5 x.f5 y.f5 _ ?s1 ?s2 HX0.out).mono ?_); (case s1 => exact (RowsE.below HC2.out.1 HB.out).1); (case s2 => exact (RowsE.below HC2.out.2 HB.out).1); rw [hs5]; rintro r W3 ⟨rfl, hb⟩; replace HB := bst HB hb; clear hb; clear p0 q0 p1 q1 p2 q2 p3 q3 p4 q4 p5 q5; obtain ⟨p0, p1, p2, p3, p4, p5⟩ := BC1.out _ HB.out; obtain ⟨q0, q1, q2, q3, q4, q5⟩ := BC2.out _ HB.out) | fail)
    go_ret
    exact ⟨by rw [sameE_eqR, hs0, hs1, hs2, hs3, hs4, hs5]; rfl, bto HB0 HB⟩
  go_wp2_with (first | (go_at_call 22; (with_reducible refine (kitExprs A5 B5 c5 d5 x.f5 y.f5 _ ?s1 ?s2 HX0.out).mono ?_); (case s1 => exact (RowsE.below HC2.out.1 HB.out).1); (case s2 => exact (RowsE.below HC2.out.2 HB.out).1); rw [hs5]; rintro r W3 ⟨rfl, hb⟩; replace HB := bst HB hb; clear hb; clear p0 q0 p1 q1 p2 q2 p3 q3 p4 q4 p5 q5; obtain ⟨p0, p1, p2, p3, p4, p5⟩ := BC1.out _ HB.out; obtain ⟨q0, q1, q2, q3, q4, q5⟩ := BC2.out _ HB.out) | fail)
  go_ret
  exact ⟨by rw [sameE_eqR, hs0, hs1, hs2, hs3, hs4, hs5]; rfl, bto HB0 HB⟩
theorem kitAt_any : ∀ (D : Nat) (x : SE), deepE x ≤ D → ∀ y, SameAtK x y
  | 0, ⟨_, _, _, _, _, l⟩, h, _ => by rw [deepE] at h; omega
  | D + 1, ⟨a0, a1, a2, a3, a4, l⟩, h, y => by
    rw [deepE] at h
    exact fun A5 c5 B5 d5 W hA hB => kitExpr_step ⟨a0, a1, a2, a3, a4, l⟩ y A5 c5 B5 d5 W hA hB fun a ha b => kitAt_any D a (by have := deep_mem_E (l := l) ha; omega) b
end Go.Proofs.YtnjnadlgndjnbaaDoor.A
