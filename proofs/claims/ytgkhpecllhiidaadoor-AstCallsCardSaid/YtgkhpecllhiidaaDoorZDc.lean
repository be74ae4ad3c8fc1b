/- The reference of chapter 6: are two expressions, two statements the same. -/
import Derived.Test.YtgkhpecllhiidaaDoorZBb
import Derived.Test.YtgkhpecllhiidaaDoorZPw
import Derived.Test.YtgkhpecllhiidaaDoorZCq
import Derived.Test.YtgkhpecllhiidaaDoorZDx1
import Derived.Test.YtgkhpecllhiidaaDoorZDx2
set_option linter.unusedVariables false
set_option linter.unusedSimpArgs false
namespace Go.Proofs.YtgkhpecllhiidaaDoor.A
open Go.RowKit Go.Shelf Go.Proofs.YtgkhpecllhiidaaDoor.As Go.Proofs.YtgkhpecllhiidaaDoorW.PrintWords Go.Proofs.YtgkhpecllhiidaaDoorW.PrintLast Go.Proofs.YtgkhpecllhiidaaDoorW.PrintMore
theorem sameE_eqR (x y : SE) : sameE x y = (x.f0 == y.f0 && (x.f1 == y.f1 && (x.f2 == y.f2 && (x.f3 == y.f3 && (x.f4.toList == y.f4.toList && eqL sameE x.f5 y.f5))))) := by
  rw [sameE_eq]; unfold sameB; simp only [Bool.and_assoc]
def SameAtR (x y : SE) : Prop := ∀ (A5 : Option Addr) (c5 : Nat) (B5 : Option Addr) (d5 : Nat) (W : World), RowsE W x A5 c5 → RowsE W y B5 d5 →
  Calls Tryd.prog 45 #[.agg #[.int .i64 x.f0, .int .i64 x.f1, .int .i64 x.f2, .int .u32 x.f3, .string x.f4, .slice A5 x.f5.length c5], .agg #[.int .i64 y.f0, .int .i64 y.f1, .int .i64 y.f2, .int .u32 y.f3, .string y.f4, .slice B5 y.f5.length d5]] W fun e W' => e = .returned (.bool (sameE x y)) ∧ Below W.heap.size W W'
set_option maxRecDepth 100000 in
set_option maxHeartbeats 4000000 in
theorem refExprs (A1 A2 : Option Addr) (c1 c2 : Nat) (l m : List SE) (w : World) (h1 : kE.C w A1 l.length l) (h2 : kE.C w A2 m.length m) (hf : ∀ x ∈ l, ∀ y, SameAtR x y) :
    Calls Tryd.prog 90 #[.slice A1 l.length c1, .slice A2 m.length c2] w fun e w' => e = .returned (.bool (eqL sameE l m)) ∧ Below w.heap.size w w' := by
  have l1 : l.length ≤ 9223372036854775807 := h1.2.1
  have l2 : m.length ≤ 9223372036854775807 := h2.2.1
  have H1 := Lx.Hd.mk h1
  have H2 := Lx.Hd.mk h2
  have HF := Lx.Hd.mk hf
  clear h1 h2 hf
  by_cases hne : l.length = m.length
  · have hn : ((l.length : Int) != (m.length : Int)) = false := by rw [hne]; simp
    go_enter Tryd.func90, Tryd.ntmps90
    go_wp2
    go_loopw [5] (fun t5 wr => ∃ i : Nat, i ≤ l.length ∧ t5 = .int .i64 i ∧ eqL sameE l m = eqL sameE (l.drop i) (m.drop i) ∧ Below w.heap.size w wr) (fun t5 _ => l.length - (intOf t5).toNat)
    case atStart => exact ⟨0, Nat.zero_le _, rfl, rfl, Below.refl _ _⟩
    case round =>
      have HNE := Lx.Hd.mk hne
      obtain ⟨i, hi, rfl, hS, hB⟩ := hrel
      by_cases hlt : i < l.length
      · clear hne
        have hlm : i < m.length := by have := HNE.out; omega
        obtain ⟨ad1, A5, c5, rfl, p0, p1, p2, p3, p4, p5, k5, g5⟩ := at_T25 H1.out i (by omega) (by omega)
        obtain ⟨ad2, B5, d5, rfl, q0, q1, q2, q3, q4, q5, m5, n5⟩ := at_T25 H2.out i (by omega) (by omega)
        have ex : rd_T25 l i = l[i] := by unfold rd_T25; rw [Int.toNat_natCast, List.getD_eq_getElem?_getD, List.getElem?_eq_getElem hlt]; rfl
        have ey : rd_T25 m i = m[i] := by unfold rd_T25; rw [Int.toNat_natCast, List.getD_eq_getElem?_getD, List.getElem?_eq_getElem hlm]; rfl
        rw [ex] at p0 p1 p2 p3 p4 p5 k5 g5
        rw [ey] at q0 q1 q2 q3 q4 q5 m5 n5
        rw [Int.toNat_natCast] at p0 p1 p2 p3 p4 p5 q0 q1 q2 q3 q4 q5
        rw [List.drop_eq_getElem_cons hlt, List.drop_eq_getElem_cons hlm, eqL] at hS
        have hst := HF.out l[i] (List.getElem_mem hlt) m[i]
        unfold SameAtR at hst
        have HSt := Lx.Hd.mk hst
        clear hst
        generalize l[i] = x at *
        generalize m[i] = y at *
        clear ex ey
        have HB := Lx.Hd.mk hB
        have HS := Lx.Hd.mk hS
        have HG1 : Lx.Hd (RowsE w x A5 c5) := Lx.Hd.mk ⟨g5, k5⟩
        have HG2 : Lx.Hd (RowsE w y B5 d5) := Lx.Hd.mk ⟨n5, m5⟩
        have HP := Lx.Hd.mk (And.intro (And.intro p0 (And.intro p1 (And.intro p2 (And.intro p3 (And.intro p4 p5))))) (And.intro q0 (And.intro q1 (And.intro q2 (And.intro q3 (And.intro q4 q5))))))
        clear p0 p1 p2 p3 p4 p5 q0 q1 q2 q3 q4 q5 hB hS g5 k5 n5 m5
        go_upto_region 6 with (fail)
        have HBd := Lx.Hd.mk (below_drew HB.out)
        refine start_ (n := 10) (S := fun w' => w'.cell? (ad1.add (i * 6)) = some (.int .i64 x.f0) ∧ w'.cell? ⟨(ad1.add (i * 6)).block, (ad1.add (i * 6)).off + 1, none⟩ = some (.int .i64 x.f1) ∧ w'.cell? ⟨(ad1.add (i * 6)).block, (ad1.add (i * 6)).off + 2, none⟩ = some (.int .i64 x.f2) ∧ w'.cell? ⟨(ad1.add (i * 6)).block, (ad1.add (i * 6)).off + 3, none⟩ = some (.int .u32 x.f3) ∧ w'.cell? ⟨(ad1.add (i * 6)).block, (ad1.add (i * 6)).off + 4, none⟩ = some (.string x.f4) ∧ w'.cell? ⟨(ad1.add (i * 6)).block, (ad1.add (i * 6)).off + 5, none⟩ = some (.slice A5 x.f5.length c5) ∧ w'.cell? (ad2.add (i * 6)) = some (.int .i64 y.f0) ∧ w'.cell? ⟨(ad2.add (i * 6)).block, (ad2.add (i * 6)).off + 1, none⟩ = some (.int .i64 y.f1) ∧ w'.cell? ⟨(ad2.add (i * 6)).block, (ad2.add (i * 6)).off + 2, none⟩ = some (.int .i64 y.f2) ∧ w'.cell? ⟨(ad2.add (i * 6)).block, (ad2.add (i * 6)).off + 3, none⟩ = some (.int .u32 y.f3) ∧ w'.cell? ⟨(ad2.add (i * 6)).block, (ad2.add (i * 6)).off + 4, none⟩ = some (.string y.f4) ∧ w'.cell? ⟨(ad2.add (i * 6)).block, (ad2.add (i * 6)).off + 5, none⟩ = some (.slice B5 y.f5.length d5)) (ds := []) (fl 10 0) (by kernel_rfl) rfl rfl ⟨pw_cell_below HBd.out HP.out.1.1, pw_cell_below HBd.out HP.out.1.2.1, pw_cell_below HBd.out HP.out.1.2.2.1, pw_cell_below HBd.out HP.out.1.2.2.2.1, pw_cell_below HBd.out HP.out.1.2.2.2.2.1, pw_cell_below HBd.out HP.out.1.2.2.2.2.2, pw_cell_below HBd.out HP.out.2.1, pw_cell_below HBd.out HP.out.2.2.1, pw_cell_below HBd.out HP.out.2.2.2.1, pw_cell_below HBd.out HP.out.2.2.2.2.1, pw_cell_below HBd.out HP.out.2.2.2.2.2.1, pw_cell_below HBd.out HP.out.2.2.2.2.2.2⟩ (fun hHeld => ?_)
        clear HB
        have HB := HBd
        clear HBd
        refine pu 0 (some 17) (fl 10 1) ?_
        refine pu 1 (some 18) (fl 10 3) ?_
        refine pu 2 (some 19) (fl 10 7) ?_
        refine pu 4 (some 21) (fl 10 23) ?_
        refine pu 5 (some 22) (fl 10 55) ?_
        refine pu 6 (some 23) (fl 10 119) ?_
        refine tk 3 (some 20) (fl 10 127) hHeld (hr := by rintro w' ⟨s0, s1, s2, s3, s4, s5, s6, s7, s8, s9, s10, s11⟩; go_simp; with_reducible rfl) (h := ?_)
        refine tk 7 (some 24) (fl 10 255) hHeld (hr := by rintro w' ⟨s0, s1, s2, s3, s4, s5, s6, s7, s8, s9, s10, s11⟩; go_simp; with_reducible rfl) (h := ?_)
        refine one_ (i := 8) (N := some 25) (fl 10 511) rfl rfl (by kernel_rfl) (by decide) (fun K hK => ?_)
        refine goes_ Tryd.func45 (by kernel_rfl) rfl #[.agg #[.int .i64 x.f0, .int .i64 x.f1, .int .i64 x.f2, .int .u32 x.f3, .string x.f4, .slice A5 x.f5.length c5], .agg #[.int .i64 y.f0, .int .i64 y.f1, .int .i64 y.f2, .int .u32 y.f3, .string y.f4, .slice B5 y.f5.length d5]] (by rfl) rfl rfl (by (try simp only [List.map_toArray, List.map_cons, List.map_nil]); first | done | rfl) ?_
        with_reducible refine (HSt.out A5 c5 B5 d5 _ ?s1 ?s2).mono ?_
        (case s1 => exact RowsE.below HG1.out HB.out)
        (case s2 => exact RowsE.below HG2.out HB.out)
        rintro r W3 ⟨rfl, hb⟩
        refine ⟨_, rfl, ?_⟩
        replace HB := bst HB hb
        clear hb
        refine hK.out _ _ ⟨pw_cell_below HB.out HP.out.1.1, pw_cell_below HB.out HP.out.1.2.1, pw_cell_below HB.out HP.out.1.2.2.1, pw_cell_below HB.out HP.out.1.2.2.2.1, pw_cell_below HB.out HP.out.1.2.2.2.2.1, pw_cell_below HB.out HP.out.1.2.2.2.2.2, pw_cell_below HB.out HP.out.2.1, pw_cell_below HB.out HP.out.2.2.1, pw_cell_below HB.out HP.out.2.2.2.1, pw_cell_below HB.out HP.out.2.2.2.2.1, pw_cell_below HB.out HP.out.2.2.2.2.2.1, pw_cell_below HB.out HP.out.2.2.2.2.2.2⟩ (fun hHeld => ?_)
        clear hK K
        refine norm_ (a' := ?_) ?_ ?_
        rotate_left; · (show Act.put _ (some 25) _ = _; simp only [Act.put, List.setIfInBounds_toArray, List.set_cons_zero, List.set_cons_succ, i64_w, i32_w]; rfl)
        refine pu 9 (some 26) (fl 10 1023) ?_
        refine done_ (by kernel_rfl) ?_
        rename_i hHeld_
        clear hHeld_
        cases hsm : sameE x y
        · go_wp2
          go_ret
          exact ⟨by rw [HS.out, hsm]; rfl, HB.out⟩
        · go_wp2
          exact ⟨⟨i + 1, hlt, by go_num, by rw [HS.out, hsm, Bool.true_and], HB.out⟩, by simp [intOf]; omega⟩
      · have hil : i = l.length := by omega
        rw [hil, List.drop_length, HNE.out, List.drop_length] at hS
        have HS := Lx.Hd.mk hS
        have HB := Lx.Hd.mk hB
        clear hS hB
        go_wp2
        go_ret
        exact ⟨by rw [HS.out]; rfl, HB.out⟩
  · have hn : ((l.length : Int) != (m.length : Int)) = true := by simp; omega
    go_enter Tryd.func90, Tryd.ntmps90
    go_wp2
    go_ret
    exact ⟨by rw [eqL_len sameE l m hne]; rfl, Below.refl _ _⟩
set_option maxRecDepth 100000 in
set_option maxHeartbeats 8000000 in
theorem refSameExpr_step (x y : SE) (A5 : Option Addr) (c5 : Nat) (B5 : Option Addr) (d5 : Nat) (w : World) (hA : RowsE w x A5 c5) (hB : RowsE w y B5 d5) (hf : ∀ a ∈ x.f5, ∀ b, SameAtR a b) :
    Calls Tryd.prog 45 #[.agg #[.int .i64 x.f0, .int .i64 x.f1, .int .i64 x.f2, .int .u32 x.f3, .string x.f4, .slice A5 x.f5.length c5], .agg #[.int .i64 y.f0, .int .i64 y.f1, .int .i64 y.f2, .int .u32 y.f3, .string y.f4, .slice B5 y.f5.length d5]] w fun e w' => e = .returned (.bool (sameE x y)) ∧ Below w.heap.size w w' := by
  have HC := Lx.Hd.mk (And.intro hA hB)
  clear hA hB
  have HX0 := Lx.Hd.mk hf
  clear hf
  go_enter Tryd.func45, Tryd.ntmps45
  go_upto_region 1 with (fail)
  refine name_world fun W2 hW2 => ?_
  have HB0 : Lx.Hd (Below w.heap.size w W2) := Lx.Hd.mk (by rw [hW2]; exact below_alloc (below_alloc (Below.refl _ _) _) _)
  have z1 : (w.alloc (.cells #[.int .i64 x.f0, .int .i64 x.f1, .int .i64 x.f2, .int .u32 x.f3, .string x.f4, .slice A5 x.f5.length c5] 25)).heap.size = w.heap.size + 1 := by simp
  have hb1 : W2.heap[w.heap.size]? = some (.cells #[.int .i64 x.f0, .int .i64 x.f1, .int .i64 x.f2, .int .u32 x.f3, .string x.f4, .slice A5 x.f5.length c5] 25 (0, 0)) := by rw [hW2]; exact blk_alloc (World.alloc_heap_new w _) _
  have hb2 : W2.heap[w.heap.size + 1]? = some (.cells #[.int .i64 y.f0, .int .i64 y.f1, .int .i64 y.f2, .int .u32 y.f3, .string y.f4, .slice B5 y.f5.length d5] 25 (0, 0)) := by rw [hW2, ← z1]; exact World.alloc_heap_new _ _
  have BC1 := Lx.Hd.mk (bkE_of hb1)
  have BC2 := Lx.Hd.mk (bkE_of hb2)
  have HC2 : Lx.Hd (RowsE W2 x A5 c5 ∧ RowsE W2 y B5 d5) := Lx.Hd.mk ⟨RowsE.below HC.out.1 HB0.out, RowsE.below HC.out.2 HB0.out⟩
  have HB : Lx.Hd (Below W2.heap.size W2 W2) := Lx.Hd.mk (Below.refl _ _)
  clear hW2 z1 hb1 hb2 HC
  generalize w.heap.size = bx at BC1 BC2 ⊢
  obtain ⟨p0, p1, p2, p3, p4, p5⟩ := BC1.out _ HB.out
  obtain ⟨q0, q1, q2, q3, q4, q5⟩ := BC2.out _ HB.out
  cases hs0 : x.f0 == y.f0
  · go_wp2_with (first | fail)
    go_ret
    exact ⟨by rw [sameE_eqR, hs0]; rfl, bto HB0 HB⟩
  cases hs1 : x.f1 == y.f1
  · go_wp2_with (first | fail)
    go_ret
    exact ⟨by rw [sameE_eqR, hs0, hs1]; rfl, bto HB0 HB⟩
  cases hs2 : x.f2 == y.f2
  · go_wp2_with (first | fail)
    go_ret
    exact ⟨by rw [sameE_eqR, hs0, hs1, hs2]; rfl, bto HB0 HB⟩
  cases hs3 : x.f3 == y.f3
  · go_wp2_with (first | fail)
    go_ret
    exact ⟨by rw [sameE_eqR, hs0, hs1, hs2, hs3]; rfl, bto HB0 HB⟩
  cases hs4 : x.f4.toList == y.f4.toList
  · go_wp2_with (first | fail)
    go_ret
    exact ⟨by rw [sameE_eqR, hs0, hs1, hs2, hs3, hs4]; rfl, bto HB0 HB⟩
  cases hs5 : eqL sameE x.f5 y.f5
  · go_wp2_with (first | (go_at_call 90; (with_reducible refine (refExprs A5 B5 c5 d5 x.f5 y.f5 _ ?s1 ?s2 HX0.out).mono ?_); (case s1 => exact (RowsE.below HC2.out.1 HB.out).1); (case s2 => exact (RowsE.below HC2.out.2 HB.out).1); rw [hs5]; rintro r W3 ⟨rfl, hb⟩; replace HB := bst HB hb; clear hb; clear p0 q0 p1 q1 p2 q2 p3 q3 p4 q4 p5 q5; obtain ⟨p0, p1, p2, p3, p4, p5⟩ := BC1.out _ HB.out; obtain ⟨q0, q1, q2, q3, q4, q5⟩ := BC2.out _ HB.out) | fail)
    go_ret
    exact ⟨by rw [sameE_eqR, hs0, hs1, hs2, hs3, hs4, hs5]; rfl, bto HB0 HB⟩
  go_wp2_with (first | (go_at_call 90; (with_reducible refine (refExprs A5 B5 c5 d5 x.f5 y.f5 _ ?s1 ?s2 HX0.out).mono ?_); (case s1 => exact (RowsE.below HC2.out.1 HB.out).1); (case s2 => exact (RowsE.below HC2.out.2 HB.out).1); rw [hs5]; rintro r W3 ⟨rfl, hb⟩; replace HB := bst HB hb; clear hb; clear p0 q0 p1 q1 p2 q2 p3 q3 p4 q4 p5 q5; obtain ⟨p0, p1, p2, p3, p4, p5⟩ := BC1.out _ HB.out; obtain ⟨q0, q1, q2, q3, q4, q5⟩ := BC2.out _ HB.out) | fail)
  go_ret
  exact ⟨by rw [sameE_eqR, hs0, hs1, hs2, hs3, hs4, hs5]; rfl, bto HB0 HB⟩
theorem refSameExpr : ∀ (D : Nat) (x : SE), deepE x ≤ D → ∀ y, SameAtR x y
  | 0, ⟨_, _, _, _, _, l⟩, h, _ => by rw [deepE] at h; omega
  | D + 1, ⟨a0, a1, a2, a3, a4, l⟩, h, y => by
    rw [deepE] at h
    exact fun A5 c5 B5 d5 W hA hB => refSameExpr_step ⟨a0, a1, a2, a3, a4, l⟩ y A5 c5 B5 d5 W hA hB fun a ha b => refSameExpr D a (by have := deep_mem_E (l := l) ha; omega) b
theorem refT_loop (l m : List ByteArray) (hl : l.length = m.length) (hb : l.length ≤ 9223372036854775807) : ∀ n i, l.length - i ≤ n → i ≤ l.length → lamplighterref06_texts.l0 (n + 1) l m (i : Int) = some (eqT (l.drop i) (m.drop i))
  | 0, i, hn, hi => by
    obtain rfl : i = l.length := by omega
    rw [lamplighterref06_texts.l0, if_neg (by omega), List.drop_length, hl, List.drop_length]; rfl
  | n + 1, i, hn, hi => by
    by_cases hlt : i < l.length
    · have hmt : i < m.length := by omega
      have hx : rdOf ByteArray.empty l (i : Int) = l[i] := by unfold rdOf; rw [Int.toNat_natCast, List.getD_eq_getElem?_getD, List.getElem?_eq_getElem hlt]; rfl
      have hy : rdOf ByteArray.empty m (i : Int) = m[i] := by unfold rdOf; rw [Int.toNat_natCast, List.getD_eq_getElem?_getD, List.getElem?_eq_getElem hmt]; rfl
      have ih := refT_loop l m hl hb n (i + 1) (by omega) hlt
      rw [lamplighterref06_texts.l0, if_pos (by omega), if_pos (by omega), if_pos (by omega), hx, hy, w64j _ (by omega), List.drop_eq_getElem_cons hlt, List.drop_eq_getElem_cons hmt, show (i : Int) + 1 = ((i + 1 : Nat) : Int) by omega, ih]
      generalize l[i] = x
      generalize m[i] = y
      unfold eqT; rw [eqL]
      by_cases h : x.toList = y.toList
      · rw [if_pos h, show (x.toList == y.toList) = true from beq_iff_eq.2 h, Bool.true_and]
      · rw [if_neg h, show (x.toList == y.toList) = false from beq_eq_false_iff_ne.2 h, Bool.false_and]
    · obtain rfl : i = l.length := by omega
      rw [lamplighterref06_texts.l0, if_neg (by omega), List.drop_length, hl, List.drop_length]; rfl
theorem refTexts (l m : List ByteArray) (A B : Option Addr) (c d : Nat) (W : World) (h1 : Kd.string.C W A l.length l) (hc : l.length ≤ c) (h2 : Kd.string.C W B m.length m) (hd : m.length ≤ d) :
    Calls Tryd.prog 92 #[.slice A l.length c, .slice B m.length d] W fun e W' => e = .returned (.bool (eqT l m)) ∧ Below W.heap.size W W' :=
  (lamplighterref06_texts.calls (l.length + 1) A c l B d m (eqT l m) W h1 hc h2 hd (by
    unfold lamplighterref06_texts.f
    by_cases h : l.length = m.length
    · rw [if_pos (by omega)]
      have := refT_loop l m h h1.2.1 l.length 0 (by omega) (Nat.zero_le _)
      rw [List.drop_zero, List.drop_zero] at this
      exact this
    · rw [if_neg (by omega)]
      have : eqT l m = false := by unfold eqT; exact eqL_len _ l m h
      rw [this])).mono fun r W' h => ⟨h.1, by have := h.2; first | exact this | exact this.below⟩
def SameAtSR (x y : SS) : Prop := ∀ (A5 A6 A7 A8 A9 : Option Addr) (c5 c6 c7 c8 c9 : Nat) (B5 B6 B7 B8 B9 : Option Addr) (d5 d6 d7 d8 d9 : Nat) (W : World), RowsS W x A5 A6 A7 A8 A9 c5 c6 c7 c8 c9 → RowsS W y B5 B6 B7 B8 B9 d5 d6 d7 d8 d9 →
  Calls Tryd.prog 47 #[.agg #[.int .i64 x.f0, .int .i64 x.f1, .int .i64 x.f2, .int .i64 x.f3, .string x.f4, .slice A5 x.f5.length c5, .slice A6 x.f6.length c6, .slice A7 x.f7.length c7, .slice A8 x.f8.length c8, .slice A9 x.f9.length c9], .agg #[.int .i64 y.f0, .int .i64 y.f1, .int .i64 y.f2, .int .i64 y.f3, .string y.f4, .slice B5 y.f5.length d5, .slice B6 y.f6.length d6, .slice B7 y.f7.length d7, .slice B8 y.f8.length d8, .slice B9 y.f9.length d9]] W fun e W' => e = .returned (.bool (sameS x y)) ∧ Below W.heap.size W W'
set_option maxRecDepth 100000 in
set_option maxHeartbeats 4000000 in
theorem refSameStmts (A1 A2 : Option Addr) (c1 c2 : Nat) (l m : List SS) (w : World) (h1 : kS.C w A1 l.length l) (h2 : kS.C w A2 m.length m) (hf : ∀ x ∈ l, ∀ y, SameAtSR x y) :
    Calls Tryd.prog 89 #[.slice A1 l.length c1, .slice A2 m.length c2] w fun e w' => e = .returned (.bool (eqL sameS l m)) ∧ Below w.heap.size w w' := by
  have l1 : l.length ≤ 9223372036854775807 := h1.2.1
  have l2 : m.length ≤ 9223372036854775807 := h2.2.1
  have H1 := Lx.Hd.mk h1
  have H2 := Lx.Hd.mk h2
  have HF := Lx.Hd.mk hf
  clear h1 h2 hf
  by_cases hne : l.length = m.length
  · have hn : ((l.length : Int) != (m.length : Int)) = false := by rw [hne]; simp
    go_enter Tryd.func89, Tryd.ntmps89
    go_wp2
    go_loopw [5] (fun t5 wr => ∃ i : Nat, i ≤ l.length ∧ t5 = .int .i64 i ∧ eqL sameS l m = eqL sameS (l.drop i) (m.drop i) ∧ Below w.heap.size w wr) (fun t5 _ => l.length - (intOf t5).toNat)
    case atStart => exact ⟨0, Nat.zero_le _, rfl, rfl, Below.refl _ _⟩
    case round =>
      have HNE := Lx.Hd.mk hne
      obtain ⟨i, hi, rfl, hS, hB⟩ := hrel
      by_cases hlt : i < l.length
      · clear hne
        have hlm : i < m.length := by have := HNE.out; omega
        obtain ⟨ad1, A5, c5, A6, c6, A7, c7, A8, c8, A9, c9, rfl, p0, p1, p2, p3, p4, p5, p6, p7, p8, p9, k5, g5, k6, g6, k7, g7, k8, g8, k9, g9⟩ := at_T38 H1.out i (by omega) (by omega)
        obtain ⟨ad2, B5, d5, B6, d6, B7, d7, B8, d8, B9, d9, rfl, q0, q1, q2, q3, q4, q5, q6, q7, q8, q9, m5, n5, m6, n6, m7, n7, m8, n8, m9, n9⟩ := at_T38 H2.out i (by omega) (by omega)
        have ex : rd_T38 l i = l[i] := by unfold rd_T38; rw [Int.toNat_natCast, List.getD_eq_getElem?_getD, List.getElem?_eq_getElem hlt]; rfl
        have ey : rd_T38 m i = m[i] := by unfold rd_T38; rw [Int.toNat_natCast, List.getD_eq_getElem?_getD, List.getElem?_eq_getElem hlm]; rfl
        rw [ex] at p0 p1 p2 p3 p4 p5 p6 p7 p8 p9 k5 g5 k6 g6 k7 g7 k8 g8 k9 g9
        rw [ey] at q0 q1 q2 q3 q4 q5 q6 q7 q8 q9 m5 n5 m6 n6 m7 n7 m8 n8 m9 n9
        rw [Int.toNat_natCast] at p0 p1 p2 p3 p4 p5 p6 p7 p8 p9 q0 q1 q2 q3 q4 q5 q6 q7 q8 q9
        rw [List.drop_eq_getElem_cons hlt, List.drop_eq_getElem_cons hlm, eqL] at hS
        have hst := HF.out l[i] (List.getElem_mem hlt) m[i]
        unfold SameAtSR at hst
        have HSt := Lx.Hd.mk hst
        clear hst
        generalize l[i] = x at *
        generalize m[i] = y at *
        clear ex ey
        have HB := Lx.Hd.mk hB
        have HS := Lx.Hd.mk hS
        have HG1 : Lx.Hd (RowsS w x A5 A6 A7 A8 A9 c5 c6 c7 c8 c9) := Lx.Hd.mk ⟨g5, g6, g7, g8, g9, k5, k6, k7, k8, k9⟩
        have HG2 : Lx.Hd (RowsS w y B5 B6 B7 B8 B9 d5 d6 d7 d8 d9) := Lx.Hd.mk ⟨n5, n6, n7, n8, n9, m5, m6, m7, m8, m9⟩
        have HP := Lx.Hd.mk (And.intro (And.intro p0 (And.intro p1 (And.intro p2 (And.intro p3 (And.intro p4 (And.intro p5 (And.intro p6 (And.intro p7 (And.intro p8 p9))))))))) (And.intro q0 (And.intro q1 (And.intro q2 (And.intro q3 (And.intro q4 (And.intro q5 (And.intro q6 (And.intro q7 (And.intro q8 q9))))))))))
        clear p0 p1 p2 p3 p4 p5 p6 p7 p8 p9 q0 q1 q2 q3 q4 q5 q6 q7 q8 q9 hB hS g5 k5 n5 m5 g6 k6 n6 m6 g7 k7 n7 m7 g8 k8 n8 m8 g9 k9 n9 m9
        go_upto_region 6 with (fail)
        have HBd := Lx.Hd.mk (below_drew HB.out)
        refine start_ (n := 10) (S := fun w' => w'.cell? (ad1.add (i * 10)) = some (.int .i64 x.f0) ∧ w'.cell? ⟨(ad1.add (i * 10)).block, (ad1.add (i * 10)).off + 1, none⟩ = some (.int .i64 x.f1) ∧ w'.cell? ⟨(ad1.add (i * 10)).block, (ad1.add (i * 10)).off + 2, none⟩ = some (.int .i64 x.f2) ∧ w'.cell? ⟨(ad1.add (i * 10)).block, (ad1.add (i * 10)).off + 3, none⟩ = some (.int .i64 x.f3) ∧ w'.cell? ⟨(ad1.add (i * 10)).block, (ad1.add (i * 10)).off + 4, none⟩ = some (.string x.f4) ∧ w'.cell? ⟨(ad1.add (i * 10)).block, (ad1.add (i * 10)).off + 5, none⟩ = some (.slice A5 x.f5.length c5) ∧ w'.cell? ⟨(ad1.add (i * 10)).block, (ad1.add (i * 10)).off + 6, none⟩ = some (.slice A6 x.f6.length c6) ∧ w'.cell? ⟨(ad1.add (i * 10)).block, (ad1.add (i * 10)).off + 7, none⟩ = some (.slice A7 x.f7.length c7) ∧ w'.cell? ⟨(ad1.add (i * 10)).block, (ad1.add (i * 10)).off + 8, none⟩ = some (.slice A8 x.f8.length c8) ∧ w'.cell? ⟨(ad1.add (i * 10)).block, (ad1.add (i * 10)).off + 9, none⟩ = some (.slice A9 x.f9.length c9) ∧ w'.cell? (ad2.add (i * 10)) = some (.int .i64 y.f0) ∧ w'.cell? ⟨(ad2.add (i * 10)).block, (ad2.add (i * 10)).off + 1, none⟩ = some (.int .i64 y.f1) ∧ w'.cell? ⟨(ad2.add (i * 10)).block, (ad2.add (i * 10)).off + 2, none⟩ = some (.int .i64 y.f2) ∧ w'.cell? ⟨(ad2.add (i * 10)).block, (ad2.add (i * 10)).off + 3, none⟩ = some (.int .i64 y.f3) ∧ w'.cell? ⟨(ad2.add (i * 10)).block, (ad2.add (i * 10)).off + 4, none⟩ = some (.string y.f4) ∧ w'.cell? ⟨(ad2.add (i * 10)).block, (ad2.add (i * 10)).off + 5, none⟩ = some (.slice B5 y.f5.length d5) ∧ w'.cell? ⟨(ad2.add (i * 10)).block, (ad2.add (i * 10)).off + 6, none⟩ = some (.slice B6 y.f6.length d6) ∧ w'.cell? ⟨(ad2.add (i * 10)).block, (ad2.add (i * 10)).off + 7, none⟩ = some (.slice B7 y.f7.length d7) ∧ w'.cell? ⟨(ad2.add (i * 10)).block, (ad2.add (i * 10)).off + 8, none⟩ = some (.slice B8 y.f8.length d8) ∧ w'.cell? ⟨(ad2.add (i * 10)).block, (ad2.add (i * 10)).off + 9, none⟩ = some (.slice B9 y.f9.length d9)) (ds := []) (fl 10 0) (by kernel_rfl) rfl rfl ⟨pw_cell_below HBd.out HP.out.1.1, pw_cell_below HBd.out HP.out.1.2.1, pw_cell_below HBd.out HP.out.1.2.2.1, pw_cell_below HBd.out HP.out.1.2.2.2.1, pw_cell_below HBd.out HP.out.1.2.2.2.2.1, pw_cell_below HBd.out HP.out.1.2.2.2.2.2.1, pw_cell_below HBd.out HP.out.1.2.2.2.2.2.2.1, pw_cell_below HBd.out HP.out.1.2.2.2.2.2.2.2.1, pw_cell_below HBd.out HP.out.1.2.2.2.2.2.2.2.2.1, pw_cell_below HBd.out HP.out.1.2.2.2.2.2.2.2.2.2, pw_cell_below HBd.out HP.out.2.1, pw_cell_below HBd.out HP.out.2.2.1, pw_cell_below HBd.out HP.out.2.2.2.1, pw_cell_below HBd.out HP.out.2.2.2.2.1, pw_cell_below HBd.out HP.out.2.2.2.2.2.1, pw_cell_below HBd.out HP.out.2.2.2.2.2.2.1, pw_cell_below HBd.out HP.out.2.2.2.2.2.2.2.1, pw_cell_below HBd.out HP.out.2.2.2.2.2.2.2.2.1, pw_cell_below HBd.out HP.out.2.2.2.2.2.2.2.2.2.1, pw_cell_below HBd.out HP.out.2.2.2.2.2.2.2.2.2.2⟩ (fun hHeld => ?_)
        clear HB
        have HB := HBd
        clear HBd
        refine pu 0 (some 17) (fl 10 1) ?_
        refine pu 1 (some 18) (fl 10 3) ?_
        refine pu 2 (some 19) (fl 10 7) ?_
        refine pu 4 (some 21) (fl 10 23) ?_
        refine pu 5 (some 22) (fl 10 55) ?_
        refine pu 6 (some 23) (fl 10 119) ?_
        refine tk 3 (some 20) (fl 10 127) hHeld (hr := by rintro w' ⟨s0, s1, s2, s3, s4, s5, s6, s7, s8, s9, s10, s11, s12, s13, s14, s15, s16, s17, s18, s19⟩; go_simp; with_reducible rfl) (h := ?_)
        refine tk 7 (some 24) (fl 10 255) hHeld (hr := by rintro w' ⟨s0, s1, s2, s3, s4, s5, s6, s7, s8, s9, s10, s11, s12, s13, s14, s15, s16, s17, s18, s19⟩; go_simp; with_reducible rfl) (h := ?_)
        refine one_ (i := 8) (N := some 25) (fl 10 511) rfl rfl (by kernel_rfl) (by decide) (fun K hK => ?_)
        refine goes_ Tryd.func47 (by kernel_rfl) rfl #[.agg #[.int .i64 x.f0, .int .i64 x.f1, .int .i64 x.f2, .int .i64 x.f3, .string x.f4, .slice A5 x.f5.length c5, .slice A6 x.f6.length c6, .slice A7 x.f7.length c7, .slice A8 x.f8.length c8, .slice A9 x.f9.length c9], .agg #[.int .i64 y.f0, .int .i64 y.f1, .int .i64 y.f2, .int .i64 y.f3, .string y.f4, .slice B5 y.f5.length d5, .slice B6 y.f6.length d6, .slice B7 y.f7.length d7, .slice B8 y.f8.length d8, .slice B9 y.f9.length d9]] (by rfl) rfl rfl (by (try simp only [List.map_toArray, List.map_cons, List.map_nil]); first | done | rfl) ?_
        with_reducible refine (HSt.out A5 A6 A7 A8 A9 c5 c6 c7 c8 c9 B5 B6 B7 B8 B9 d5 d6 d7 d8 d9 _ ?s1 ?s2).mono ?_
        (case s1 => exact RowsS.below HG1.out HB.out)
        (case s2 => exact RowsS.below HG2.out HB.out)
        rintro r W3 ⟨rfl, hb⟩
        refine ⟨_, rfl, ?_⟩
        replace HB := bst HB hb
        clear hb
        refine hK.out _ _ ⟨pw_cell_below HB.out HP.out.1.1, pw_cell_below HB.out HP.out.1.2.1, pw_cell_below HB.out HP.out.1.2.2.1, pw_cell_below HB.out HP.out.1.2.2.2.1, pw_cell_below HB.out HP.out.1.2.2.2.2.1, pw_cell_below HB.out HP.out.1.2.2.2.2.2.1, pw_cell_below HB.out HP.out.1.2.2.2.2.2.2.1, pw_cell_below HB.out HP.out.1.2.2.2.2.2.2.2.1, pw_cell_below HB.out HP.out.1.2.2.2.2.2.2.2.2.1, pw_cell_below HB.out HP.out.1.2.2.2.2.2.2.2.2.2, pw_cell_below HB.out HP.out.2.1, pw_cell_below HB.out HP.out.2.2.1, pw_cell_below HB.out HP.out.2.2.2.1, pw_cell_below HB.out HP.out.2.2.2.2.1, pw_cell_below HB.out HP.out.2.2.2.2.2.1, pw_cell_below HB.out HP.out.2.2.2.2.2.2.1, pw_cell_below HB.out HP.out.2.2.2.2.2.2.2.1, pw_cell_below HB.out HP.out.2.2.2.2.2.2.2.2.1, pw_cell_below HB.out HP.out.2.2.2.2.2.2.2.2.2.1, pw_cell_below HB.out HP.out.2.2.2.2.2.2.2.2.2.2⟩ (fun hHeld => ?_)
        clear hK K
        refine norm_ (a' := ?_) ?_ ?_
        rotate_left; · (show Act.put _ (some 25) _ = _; simp only [Act.put, List.setIfInBounds_toArray, List.set_cons_zero, List.set_cons_succ, i64_w, i32_w]; rfl)
        refine pu 9 (some 26) (fl 10 1023) ?_
        refine done_ (by kernel_rfl) ?_
        rename_i hHeld_
        clear hHeld_
        cases hsm : sameS x y
        · go_wp2
          go_ret
          exact ⟨by rw [HS.out, hsm]; rfl, HB.out⟩
        · go_wp2
          exact ⟨⟨i + 1, hlt, by go_num, by rw [HS.out, hsm, Bool.true_and], HB.out⟩, by simp [intOf]; omega⟩
      · have hil : i = l.length := by omega
        rw [hil, List.drop_length, HNE.out, List.drop_length] at hS
        have HS := Lx.Hd.mk hS
        have HB := Lx.Hd.mk hB
        clear hS hB
        go_wp2
        go_ret
        exact ⟨by rw [HS.out]; rfl, HB.out⟩
  · have hn : ((l.length : Int) != (m.length : Int)) = true := by simp; omega
    go_enter Tryd.func89, Tryd.ntmps89
    go_wp2
    go_ret
    exact ⟨by rw [eqL_len sameS l m hne]; rfl, Below.refl _ _⟩
set_option maxRecDepth 100000 in
set_option maxHeartbeats 8000000 in
theorem refSameStmt_step (x y : SS) (A5 A6 A7 A8 A9 : Option Addr) (c5 c6 c7 c8 c9 : Nat) (B5 B6 B7 B8 B9 : Option Addr) (d5 d6 d7 d8 d9 : Nat) (w : World) (hA : RowsS w x A5 A6 A7 A8 A9 c5 c6 c7 c8 c9) (hB : RowsS w y B5 B6 B7 B8 B9 d5 d6 d7 d8 d9) (hf : (∀ a ∈ x.f8, ∀ b, SameAtSR a b) ∧ (∀ a ∈ x.f9, ∀ b, SameAtSR a b)) (hl : x.f5.length ≤ c5 ∧ y.f5.length ≤ d5) :
    Calls Tryd.prog 47 #[.agg #[.int .i64 x.f0, .int .i64 x.f1, .int .i64 x.f2, .int .i64 x.f3, .string x.f4, .slice A5 x.f5.length c5, .slice A6 x.f6.length c6, .slice A7 x.f7.length c7, .slice A8 x.f8.length c8, .slice A9 x.f9.length c9], .agg #[.int .i64 y.f0, .int .i64 y.f1, .int .i64 y.f2, .int .i64 y.f3, .string y.f4, .slice B5 y.f5.length d5, .slice B6 y.f6.length d6, .slice B7 y.f7.length d7, .slice B8 y.f8.length d8, .slice B9 y.f9.length d9]] w fun e w' => e = .returned (.bool (sameS x y)) ∧ Below w.heap.size w w' := by
  have HC := Lx.Hd.mk (And.intro hA hB)
  clear hA hB
  have HX0 := Lx.Hd.mk hf
  clear hf
  have HX1 := Lx.Hd.mk hl
  clear hl
  go_enter Tryd.func47, Tryd.ntmps47
  go_upto_region 1 with (fail)
  refine name_world fun W2 hW2 => ?_
  have HB0 : Lx.Hd (Below w.heap.size w W2) := Lx.Hd.mk (by rw [hW2]; exact below_alloc (below_alloc (Below.refl _ _) _) _)
  have z1 : (w.alloc (.cells #[.int .i64 x.f0, .int .i64 x.f1, .int .i64 x.f2, .int .i64 x.f3, .string x.f4, .slice A5 x.f5.length c5, .slice A6 x.f6.length c6, .slice A7 x.f7.length c7, .slice A8 x.f8.length c8, .slice A9 x.f9.length c9] 38)).heap.size = w.heap.size + 1 := by simp
  have hb1 : W2.heap[w.heap.size]? = some (.cells #[.int .i64 x.f0, .int .i64 x.f1, .int .i64 x.f2, .int .i64 x.f3, .string x.f4, .slice A5 x.f5.length c5, .slice A6 x.f6.length c6, .slice A7 x.f7.length c7, .slice A8 x.f8.length c8, .slice A9 x.f9.length c9] 38 (0, 0)) := by rw [hW2]; exact blk_alloc (World.alloc_heap_new w _) _
  have hb2 : W2.heap[w.heap.size + 1]? = some (.cells #[.int .i64 y.f0, .int .i64 y.f1, .int .i64 y.f2, .int .i64 y.f3, .string y.f4, .slice B5 y.f5.length d5, .slice B6 y.f6.length d6, .slice B7 y.f7.length d7, .slice B8 y.f8.length d8, .slice B9 y.f9.length d9] 38 (0, 0)) := by rw [hW2, ← z1]; exact World.alloc_heap_new _ _
  have BC1 := Lx.Hd.mk (bkS_of hb1)
  have BC2 := Lx.Hd.mk (bkS_of hb2)
  have HC2 : Lx.Hd (RowsS W2 x A5 A6 A7 A8 A9 c5 c6 c7 c8 c9 ∧ RowsS W2 y B5 B6 B7 B8 B9 d5 d6 d7 d8 d9) := Lx.Hd.mk ⟨RowsS.below HC.out.1 HB0.out, RowsS.below HC.out.2 HB0.out⟩
  have HB : Lx.Hd (Below W2.heap.size W2 W2) := Lx.Hd.mk (Below.refl _ _)
  clear hW2 z1 hb1 hb2 HC
  generalize w.heap.size = bx at BC1 BC2 ⊢
  obtain ⟨p0, p1, p2, p3, p4, p5, p6, p7, p8, p9⟩ := BC1.out _ HB.out
  obtain ⟨q0, q1, q2, q3, q4, q5, q6, q7, q8, q9⟩ := BC2.out _ HB.out
  cases hs0 : x.f0 == y.f0
  · go_wp2_with (first | fail)
    go_ret
    exact ⟨by rw [sameS_eq, hs0]; rfl, bto HB0 HB⟩
  cases hs1 : x.f2 == y.f2
  · go_wp2_with (first | fail)
    go_ret
    exact ⟨by rw [sameS_eq, hs0, hs1]; rfl, bto HB0 HB⟩
  cases hs2 : x.f3 == y.f3
  · go_wp2_with (first | fail)
    go_ret
    exact ⟨by rw [sameS_eq, hs0, hs1, hs2]; rfl, bto HB0 HB⟩
  cases hs3 : x.f4.toList == y.f4.toList
  · go_wp2_with (first | fail)
    go_ret
    exact ⟨by rw [sameS_eq, hs0, hs1, hs2, hs3]; rfl, bto HB0 HB⟩
  cases hs4 : eqT x.f5 y.f5
  · go_wp2_with (first | (go_at_call 92; (with_reducible refine (refTexts x.f5 y.f5 A5 B5 c5 d5 _ ?s1 HX1.out.1 ?s2 HX1.out.2).mono ?_); (case s1 => exact (RowsS.below HC2.out.1 HB.out).1); (case s2 => exact (RowsS.below HC2.out.2 HB.out).1); rw [hs4]; rintro r W3 ⟨rfl, hb⟩; replace HB := bst HB hb; clear hb; clear p0 q0 p1 q1 p2 q2 p3 q3 p4 q4 p5 q5 p6 q6 p7 q7 p8 q8 p9 q9; obtain ⟨p0, p1, p2, p3, p4, p5, p6, p7, p8, p9⟩ := BC1.out _ HB.out; obtain ⟨q0, q1, q2, q3, q4, q5, q6, q7, q8, q9⟩ := BC2.out _ HB.out) | fail)
    go_ret
    exact ⟨by rw [sameS_eq, hs0, hs1, hs2, hs3, hs4]; rfl, bto HB0 HB⟩
  cases hs5 : eqL sameE x.f6 y.f6
  · go_wp2_with (first | (go_at_call 92; (with_reducible refine (refTexts x.f5 y.f5 A5 B5 c5 d5 _ ?s1 HX1.out.1 ?s2 HX1.out.2).mono ?_); (case s1 => exact (RowsS.below HC2.out.1 HB.out).1); (case s2 => exact (RowsS.below HC2.out.2 HB.out).1); rw [hs4]; rintro r W3 ⟨rfl, hb⟩; replace HB := bst HB hb; clear hb; clear p0 q0 p1 q1 p2 q2 p3 q3 p4 q4 p5 q5 p6 q6 p7 q7 p8 q8 p9 q9; obtain ⟨p0, p1, p2, p3, p4, p5, p6, p7, p8, p9⟩ := BC1.out _ HB.out; obtain ⟨q0, q1, q2, q3, q4, q5, q6, q7, q8, q9⟩ := BC2.out _ HB.out) | (go_at_call 90; (with_reducible refine (refExprs A6 B6 c6 d6 x.f6 y.f6 _ ?s1 ?s2 (fun a _ b => refSameExpr (deepE a) a (Nat.le_refl _) b)).mono ?_); (case s1 => exact (RowsS.below HC2.out.1 HB.out).2.1); (case s2 => exact (RowsS.below HC2.out.2 HB.out).2.1); rw [hs5]; rintro r W3 ⟨rfl, hb⟩; replace HB := bst HB hb; clear hb; clear p0 q0 p1 q1 p2 q2 p3 q3 p4 q4 p5 q5 p6 q6 p7 q7 p8 q8 p9 q9; obtain ⟨p0, p1, p2, p3, p4, p5, p6, p7, p8, p9⟩ := BC1.out _ HB.out; obtain ⟨q0, q1, q2, q3, q4, q5, q6, q7, q8, q9⟩ := BC2.out _ HB.out) | fail)
    go_ret
    exact ⟨by rw [sameS_eq, hs0, hs1, hs2, hs3, hs4, hs5]; rfl, bto HB0 HB⟩
  cases hs6 : eqL sameE x.f7 y.f7
  · go_wp2_with (first | (go_at_call 92; (with_reducible refine (refTexts x.f5 y.f5 A5 B5 c5 d5 _ ?s1 HX1.out.1 ?s2 HX1.out.2).mono ?_); (case s1 => exact (RowsS.below HC2.out.1 HB.out).1); (case s2 => exact (RowsS.below HC2.out.2 HB.out).1); rw [hs4]; rintro r W3 ⟨rfl, hb⟩; replace HB := bst HB hb; clear hb; clear p0 q0 p1 q1 p2 q2 p3 q3 p4 q4 p5 q5 p6 q6 p7 q7 p8 q8 p9 q9; obtain ⟨p0, p1, p2, p3, p4, p5, p6, p7, p8, p9⟩ := BC1.out _ HB.out; obtain ⟨q0, q1, q2, q3, q4, q5, q6, q7, q8, q9⟩ := BC2.out _ HB.out) | (go_at_call 90; (with_reducible refine (refExprs A6 B6 c6 d6 x.f6 y.f6 _ ?s1 ?s2 (fun a _ b => refSameExpr (deepE a) a (Nat.le_refl _) b)).mono ?_); (case s1 => exact (RowsS.below HC2.out.1 HB.out).2.1); (case s2 => exact (RowsS.below HC2.out.2 HB.out).2.1); rw [hs5]; rintro r W3 ⟨rfl, hb⟩; replace HB := bst HB hb; clear hb; clear p0 q0 p1 q1 p2 q2 p3 q3 p4 q4 p5 q5 p6 q6 p7 q7 p8 q8 p9 q9; obtain ⟨p0, p1, p2, p3, p4, p5, p6, p7, p8, p9⟩ := BC1.out _ HB.out; obtain ⟨q0, q1, q2, q3, q4, q5, q6, q7, q8, q9⟩ := BC2.out _ HB.out) | (go_at_call 90; (with_reducible refine (refExprs A7 B7 c7 d7 x.f7 y.f7 _ ?s1 ?s2 (fun a _ b => refSameExpr (deepE a) a (Nat.le_refl _) b)).mono ?_); (case s1 => exact (RowsS.below HC2.out.1 HB.out).2.2.1); (case s2 => exact (RowsS.below HC2.out.2 HB.out).2.2.1); rw [hs6]; rintro r W3 ⟨rfl, hb⟩; replace HB := bst HB hb; clear hb; clear p0 q0 p1 q1 p2 q2 p3 q3 p4 q4 p5 q5 p6 q6 p7 q7 p8 q8 p9 q9; obtain ⟨p0, p1, p2, p3, p4, p5, p6, p7, p8, p9⟩ := BC1.out _ HB.out; obtain ⟨q0, q1, q2, q3, q4, q5, q6, q7, q8, q9⟩ := BC2.out _ HB.out) | fail)
    go_ret
    exact ⟨by rw [sameS_eq, hs0, hs1, hs2, hs3, hs4, hs5, hs6]; rfl, bto HB0 HB⟩
  cases hs7 : eqL sameS x.f8 y.f8
  · go_wp2_with (first | (go_at_call 92; (with_reducible refine (refTexts x.f5 y.f5 A5 B5 c5 d5 _ ?s1 HX1.out.1 ?s2 HX1.out.2).mono ?_); (case s1 => exact (RowsS.below HC2.out.1 HB.out).1); (case s2 => exact (RowsS.below HC2.out.2 HB.out).1); rw [hs4]; rintro r W3 ⟨rfl, hb⟩; replace HB := bst HB hb; clear hb; clear p0 q0 p1 q1 p2 q2 p3 q3 p4 q4 p5 q5 p6 q6 p7 q7 p8 q8 p9 q9; obtain ⟨p0, p1, p2, p3, p4, p5, p6, p7, p8, p9⟩ := BC1.out _ HB.out; obtain ⟨q0, q1, q2, q3, q4, q5, q6, q7, q8, q9⟩ := BC2.out _ HB.out) | (go_at_call 90; (with_reducible refine (refExprs A6 B6 c6 d6 x.f6 y.f6 _ ?s1 ?s2 (fun a _ b => refSameExpr (deepE a) a (Nat.le_refl _) b)).mono ?_); (case s1 => exact (RowsS.below HC2.out.1 HB.out).2.1); (case s2 => exact (RowsS.below HC2.out.2 HB.out).2.1); rw [hs5]; rintro r W3 ⟨rfl, hb⟩; replace HB := bst HB hb; clear hb; clear p0 q0 p1 q1 p2 q2 p3 q3 p4 q4 p5 q5 p6 q6 p7 q7 p8 q8 p9 q9; obtain ⟨p0, p1, p2, p3, p4, p5, p6, p7, p8, p9⟩ := BC1.out _ HB.out; obtain ⟨q0, q1, q2, q3, q4, q5, q6, q7, q8, q9⟩ := BC2.out _ HB.out) | (go_at_call 90; (with_reducible refine (refExprs A7 B7 c7 d7 x.f7 y.f7 _ ?s1 ?s2 (fun a _ b => refSameExpr (deepE a) a (Nat.le_refl _) b)).mono ?_); (case s1 => exact (RowsS.below HC2.out.1 HB.out).2.2.1); (case s2 => exact (RowsS.below HC2.out.2 HB.out).2.2.1); rw [hs6]; rintro r W3 ⟨rfl, hb⟩; replace HB := bst HB hb; clear hb; clear p0 q0 p1 q1 p2 q2 p3 q3 p4 q4 p5 q5 p6 q6 p7 q7 p8 q8 p9 q9; obtain ⟨p0, p1, p2, p3, p4, p5, p6, p7, p8, p9⟩ := BC1.out _ HB.out; obtain ⟨q0, q1, q2, q3, q4, q5, q6, q7, q8, q9⟩ := BC2.out _ HB.out) | (go_at_call 89; (with_reducible refine (refSameStmts A8 B8 c8 d8 x.f8 y.f8 _ ?s1 ?s2 HX0.out.1).mono ?_); (case s1 => exact (RowsS.below HC2.out.1 HB.out).2.2.2.1); (case s2 => exact (RowsS.below HC2.out.2 HB.out).2.2.2.1); rw [hs7]; rintro r W3 ⟨rfl, hb⟩; replace HB := bst HB hb; clear hb; clear p0 q0 p1 q1 p2 q2 p3 q3 p4 q4 p5 q5 p6 q6 p7 q7 p8 q8 p9 q9; obtain ⟨p0, p1, p2, p3, p4, p5, p6, p7, p8, p9⟩ := BC1.out _ HB.out; obtain ⟨q0, q1, q2, q3, q4, q5, q6, q7, q8, q9⟩ := BC2.out _ HB.out) | fail)
    go_ret
    exact ⟨by rw [sameS_eq, hs0, hs1, hs2, hs3, hs4, hs5, hs6, hs7]; rfl, bto HB0 HB⟩
  cases hs8 : eqL sameS x.f9 y.f9
  · go_wp2_with (first | (go_at_call 92; (with_reducible refine (refTexts x.f5 y.f5 A5 B5 c5 d5 _ ?s1 HX1.out.1 ?s2 HX1.out.2).mono ?_); (case s1 => exact (RowsS.below HC2.out.1 HB.out).1); (case s2 => exact (RowsS.below HC2.out.2 HB.out).1); rw [hs4]; rintro r W3 ⟨rfl, hb⟩; replace HB := bst HB hb; clear hb; clear p0 q0 p1 q1 p2 q2 p3 q3 p4 q4 p5 q5 p6 q6 p7 q7 p8 q8 p9 q9; obtain ⟨p0, p1, p2, p3, p4, p5, p6, p7, p8, p9⟩ := BC1.out _ HB.out; obtain ⟨q0, q1, q2, q3, q4, q5, q6, q7, q8, q9⟩ := BC2.out _ HB.out) | (go_at_call 90; (with_reducible refine (refExprs A6 B6 c6 d6 x.f6 y.f6 _ ?s1 ?s2 (fun a _ b => refSameExpr (deepE a) a (Nat.le_refl _) b)).mono ?_); (case s1 => exact (RowsS.below HC2.out.1 HB.out).2.1); (case s2 => exact (RowsS.below HC2.out.2 HB.out).2.1); rw [hs5]; rintro r W3 ⟨rfl, hb⟩; replace HB := bst HB hb; clear hb; clear p0 q0 p1 q1 p2 q2 p3 q3 p4 q4 p5 q5 p6 q6 p7 q7 p8 q8 p9 q9; obtain ⟨p0, p1, p2, p3, p4, p5, p6, p7, p8, p9⟩ := BC1.out _ HB.out; obtain ⟨q0, q1, q2, q3, q4, q5, q6, q7, q8, q9⟩ := BC2.out _ HB.out) | (go_at_call 90; (with_reducible refine (refExprs A7 B7 c7 d7 x.f7 y.f7 _ ?s1 ?s2 (fun a _ b => refSameExpr (deepE a) a (Nat.le_refl _) b)).mono ?_); (case s1 => exact (RowsS.below HC2.out.1 HB.out).2.2.1); (case s2 => exact (RowsS.below HC2.out.2 HB.out).2.2.1); rw [hs6]; rintro r W3 ⟨rfl, hb⟩; replace HB := bst HB hb; clear hb; clear p0 q0 p1 q1 p2 q2 p3 q3 p4 q4 p5 q5 p6 q6 p7 q7 p8 q8 p9 q9; obtain ⟨p0, p1, p2, p3, p4, p5, p6, p7, p8, p9⟩ := BC1.out _ HB.out; obtain ⟨q0, q1, q2, q3, q4, q5, q6, q7, q8, q9⟩ := BC2.out _ HB.out) | (go_at_call 89; (with_reducible refine (refSameStmts A8 B8 c8 d8 x.f8 y.f8 _ ?s1 ?s2 HX0.out.1).mono ?_); (case s1 => exact (RowsS.below HC2.out.1 HB.out).2.2.2.1); (case s2 => exact (RowsS.below HC2.out.2 HB.out).2.2.2.1); rw [hs7]; rintro r W3 ⟨rfl, hb⟩; replace HB := bst HB hb; clear hb; clear p0 q0 p1 q1 p2 q2 p3 q3 p4 q4 p5 q5 p6 q6 p7 q7 p8 q8 p9 q9; obtain ⟨p0, p1, p2, p3, p4, p5, p6, p7, p8, p9⟩ := BC1.out _ HB.out; obtain ⟨q0, q1, q2, q3, q4, q5, q6, q7, q8, q9⟩ := BC2.out _ HB.out) | (go_at_call 89; (with_reducible refine (refSameStmts A9 B9 c9 d9 x.f9 y.f9 _ ?s1 ?s2 HX0.out.2).mono ?_); (case s1 => exact (RowsS.below HC2.out.1 HB.out).2.2.2.2.1); (case s2 => exact (RowsS.below HC2.out.2 HB.out).2.2.2.2.1); rw [hs8]; rintro r W3 ⟨rfl, hb⟩; replace HB := bst HB hb; clear hb; clear p0 q0 p1 q1 p2 q2 p3 q3 p4 q4 p5 q5 p6 q6 p7 q7 p8 q8 p9 q9; obtain ⟨p0, p1, p2, p3, p4, p5, p6, p7, p8, p9⟩ := BC1.out _ HB.out; obtain ⟨q0, q1, q2, q3, q4, q5, q6, q7, q8, q9⟩ := BC2.out _ HB.out) | fail)
    go_ret
    exact ⟨by rw [sameS_eq, hs0, hs1, hs2, hs3, hs4, hs5, hs6, hs7, hs8]; rfl, bto HB0 HB⟩
  go_wp2_with (first | (go_at_call 92; (with_reducible refine (refTexts x.f5 y.f5 A5 B5 c5 d5 _ ?s1 HX1.out.1 ?s2 HX1.out.2).mono ?_); (case s1 => exact (RowsS.below HC2.out.1 HB.out).1); (case s2 => exact (RowsS.below HC2.out.2 HB.out).1); rw [hs4]; rintro r W3 ⟨rfl, hb⟩; replace HB := bst HB hb; clear hb; clear p0 q0 p1 q1 p2 q2 p3 q3 p4 q4 p5 q5 p6 q6 p7 q7 p8 q8 p9 q9; obtain ⟨p0, p1, p2, p3, p4, p5, p6, p7, p8, p9⟩ := BC1.out _ HB.out; obtain ⟨q0, q1, q2, q3, q4, q5, q6, q7, q8, q9⟩ := BC2.out _ HB.out) | (go_at_call 90; (with_reducible refine (refExprs A6 B6 c6 d6 x.f6 y.f6 _ ?s1 ?s2 (fun a _ b => refSameExpr (deepE a) a (Nat.le_refl _) b)).mono ?_); (case s1 => exact (RowsS.below HC2.out.1 HB.out).2.1); (case s2 => exact (RowsS.below HC2.out.2 HB.out).2.1); rw [hs5]; rintro r W3 ⟨rfl, hb⟩; replace HB := bst HB hb; clear hb; clear p0 q0 p1 q1 p2 q2 p3 q3 p4 q4 p5 q5 p6 q6 p7 q7 p8 q8 p9 q9; obtain ⟨p0, p1, p2, p3, p4, p5, p6, p7, p8, p9⟩ := BC1.out _ HB.out; obtain ⟨q0, q1, q2, q3, q4, q5, q6, q7, q8, q9⟩ := BC2.out _ HB.out) | (go_at_call 90; (with_reducible refine (refExprs A7 B7 c7 d7 x.f7 y.f7 _ ?s1 ?s2 (fun a _ b => refSameExpr (deepE a) a (Nat.le_refl _) b)).mono ?_); (case s1 => exact (RowsS.below HC2.out.1 HB.out).2.2.1); (case s2 => exact (RowsS.below HC2.out.2 HB.out).2.2.1); rw [hs6]; rintro r W3 ⟨rfl, hb⟩; replace HB := bst HB hb; clear hb; clear p0 q0 p1 q1 p2 q2 p3 q3 p4 q4 p5 q5 p6 q6 p7 q7 p8 q8 p9 q9; obtain ⟨p0, p1, p2, p3, p4, p5, p6, p7, p8, p9⟩ := BC1.out _ HB.out; obtain ⟨q0, q1, q2, q3, q4, q5, q6, q7, q8, q9⟩ := BC2.out _ HB.out) | (go_at_call 89; (with_reducible refine (refSameStmts A8 B8 c8 d8 x.f8 y.f8 _ ?s1 ?s2 HX0.out.1).mono ?_); (case s1 => exact (RowsS.below HC2.out.1 HB.out).2.2.2.1); (case s2 => exact (RowsS.below HC2.out.2 HB.out).2.2.2.1); rw [hs7]; rintro r W3 ⟨rfl, hb⟩; replace HB := bst HB hb; clear hb; clear p0 q0 p1 q1 p2 q2 p3 q3 p4 q4 p5 q5 p6 q6 p7 q7 p8 q8 p9 q9; obtain ⟨p0, p1, p2, p3, p4, p5, p6, p7, p8, p9⟩ := BC1.out _ HB.out; obtain ⟨q0, q1, q2, q3, q4, q5, q6, q7, q8, q9⟩ := BC2.out _ HB.out) | (go_at_call 89; (with_reducible refine (refSameStmts A9 B9 c9 d9 x.f9 y.f9 _ ?s1 ?s2 HX0.out.2).mono ?_); (case s1 => exact (RowsS.below HC2.out.1 HB.out).2.2.2.2.1); (case s2 => exact (RowsS.below HC2.out.2 HB.out).2.2.2.2.1); rw [hs8]; rintro r W3 ⟨rfl, hb⟩; replace HB := bst HB hb; clear hb; clear p0 q0 p1 q1 p2 q2 p3 q3 p4 q4 p5 q5 p6 q6 p7 q7 p8 q8 p9 q9; obtain ⟨p0, p1, p2, p3, p4, p5, p6, p7, p8, p9⟩ := BC1.out _ HB.out; obtain ⟨q0, q1, q2, q3, q4, q5, q6, q7, q8, q9⟩ := BC2.out _ HB.out) | fail)
  go_ret
  exact ⟨by rw [sameS_eq, hs0, hs1, hs2, hs3, hs4, hs5, hs6, hs7, hs8]; rfl, bto HB0 HB⟩
theorem refSameStmt : ∀ (D : Nat) (x : SS), deepS x ≤ D → ∀ y, SameAtSR x y
  | 0, ⟨_, _, _, _, _, _, _, _, _, _⟩, h, _ => by rw [deepS] at h; omega
  | D + 1, ⟨a0, a1, a2, a3, a4, n, i, e, t, f⟩, h, y => by
    rw [deepS] at h
    intro A5 A6 A7 A8 A9 c5 c6 c7 c8 c9 B5 B6 B7 B8 B9 d5 d6 d7 d8 d9 W hA hB
    exact refSameStmt_step ⟨a0, a1, a2, a3, a4, n, i, e, t, f⟩ y A5 A6 A7 A8 A9 c5 c6 c7 c8 c9 B5 B6 B7 B8 B9 d5 d6 d7 d8 d9 W hA hB
      ⟨fun a ha b => refSameStmt D a (by have := deep_mem_S (l := t) ha; omega) b, fun a ha b => refSameStmt D a (by have := deep_mem_S (l := f) ha; omega) b⟩
      ⟨hA.2.2.2.2.2.1, hB.2.2.2.2.2.1⟩
end Go.Proofs.YtgkhpecllhiidaaDoor.A
