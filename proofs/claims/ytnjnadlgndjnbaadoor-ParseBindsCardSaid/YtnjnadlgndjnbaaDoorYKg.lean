/- Parse: primary without a type (written by genpr.py). -/
import Derived.Test.YtnjnadlgndjnbaaDoorYKe
section
set_option linter.unusedVariables false
set_option linter.unusedSimpArgs false
namespace Go.Proofs.YtnjnadlgndjnbaaDoor.Pk
open Go.RowKit Go.Proofs.YtnjnadlgndjnbaaDoorW.PrintWords Go.Proofs.YtnjnadlgndjnbaaDoorW.PrintLast Go.Proofs.YtnjnadlgndjnbaaDoorW.PrintMore Go.Proofs.YtnjnadlgndjnbaaDoor.Lx
section
variable {B g : Nat} {A : Option Addr} {c : Nat} {l : List Tk} {ln cl : Int} {k : Nat}
set_option maxRecDepth 100000 in
theorem prim_num (hk : Spec B g A c l ln cl k) (hB : B ≤ g) (w : World) (i : Nat) (hp : Pa w g A c l i ln cl) (hv : Pv B w)
    (hb : (typN (nowT l i ln cl).text != 0 && (nowT l i ln cl).kind == 2) = false) (hk3 : (nowT l i ln cl).kind = 3) :
    Calls Tryd.prog 55 #[.pointer (some ⟨g, 0, none⟩)] w (Out (ExR g) w g A c l ln cl (.ok (Fp.eNum (nowT l i ln cl).num) (ks l (i + 1)))) := by
  have hi : i < l.length := kind_lt (ln := ln) (cl := cl) (by omega)
  have hl := hp.len
  have hpos := hp.pos
  have hgl := hp.lt
  have e1 : IntKind.i64.wrap ((i : Int) + 1) = (i : Int) + 1 := IntWalk.i64_in _ (by omega)
  have hB0 := below_alloc (Below.refl w.heap.size w) (.cells zE6 26)
  have hN0 := (NewB.alloc w zE6 26).1
  have hX := isType_any (hp.below hB0) (hv.below hB0)
  rw [hb] at hX
  have HN := Hd.mk hN0
  have HB := Hd.mk hB0
  clear hN0 hB0
  go_enter Tryd.func55, Tryd.ntmps55
  go_wp2_with (first
    | (go_at_call 26; (with_reducible refine hX.mono ?_); rintro e w1 ⟨rfl, hb1⟩; have hp1 := (hp.below HB.out).below hb1; have hG1 := Hd.mk (grown_of_below (HB.out.trans (hb1.mono HB.out.size)) (some g)); have HN1 := Hd.mk (keep_blk HN.out (grown_of_below hb1 (some g)) (Nat.ne_of_gt hgl)))
    | (go_at_call 42; have hn := now_any hp1; rw [hk3] at hn; (with_reducible refine hn.mono ?_); rintro e w2 ⟨rfl, hb2⟩; have hbt := Hd.mk (below_alloc (Below.refl w2.heap.size w2) (.cells #[.int .i64 3, .string (nowT l i ln cl).text, .int .i64 (nowT l i ln cl).line, .int .i64 (nowT l i ln cl).col, .int .u32 (nowT l i ln cl).num] 99)); have hp2 := (hp1.below hb2).below hbt.out; have hG2 := Hd.mk (grown_below (grown_below hG1.out hb2) hbt.out); have HN2 := Hd.mk (keep_blk (keep_blk HN1.out (grown_of_below hb2 (some g)) (Nat.ne_of_gt hgl)) (grown_of_below hbt.out (some g)) (Nat.ne_of_gt hgl)))
    | (go_at_call 25; (with_reducible refine (number_ok hp2 hk3 hi).mono ?_); rintro e w3 ⟨rfl, hp3, hg3⟩; have hN3 := keep_blk HN2.out hg3 (Nat.ne_of_gt hgl); obtain ⟨q0, q1, q2, q3, q4, q5⟩ := cells6 hN3; obtain ⟨f0, f1, f2, f3, f4, f5⟩ := froz6 hN3; have hbl := heap_lt' hN3)
    | fail)
  have hZ := put6 hN3 (.int .i64 1) (.int .i64 0) (.int .i64 0) (.int .u32 (nowT l i ln cl).num) (.string ⟨#[]⟩) (.slice none 0 0)
  have hGF := grown_over (grown_trans hG2.out hg3) hZ.2 (Nat.le_refl _)
  refine bodyPost_ret (results_cell_row rfl _ _ _ 26 _ (0, 0) _ rfl hZ.1 Tryd.underlying26 rfl (by kernel_rfl)) rfl ?_
  exact ⟨hGF, i + 1, _, rfl, hp.fin hGF hp3 hZ.2 (by omega), rfl, none, 0, rfl, Kd.R_nil _ _ _ _ _⟩
set_option maxRecDepth 100000 in
theorem prim_var (hk : Spec B g A c l ln cl k) (hB : B ≤ g) (w : World) (i : Nat) (hp : Pa w g A c l i ln cl) (hv : Pv B w)
    (hb : (typN (nowT l i ln cl).text != 0 && (nowT l i ln cl).kind == 2) = false) (hk1 : (nowT l i ln cl).kind = 1) (hK1 : isK ⟨#[91]⟩ (nowT l (i + 1) ln cl) = false) (hK2 : isK ⟨#[40]⟩ (nowT l (i + 1) ln cl) = false) :
    Calls Tryd.prog 55 #[.pointer (some ⟨g, 0, none⟩)] w (Out (ExR g) w g A c l ln cl (.ok (Fp.eVar (nowT l i ln cl).text.data.toList) (ks l (i + 1)))) := by
  have hi : i < l.length := kind_lt (ln := ln) (cl := cl) (by omega)
  have hl := hp.len
  have hpos := hp.pos
  have hgl := hp.lt
  have e1 : IntKind.i64.wrap ((i : Int) + 1) = (i : Int) + 1 := IntWalk.i64_in _ (by omega)
  have hB0 := below_alloc (Below.refl w.heap.size w) (.cells zE6 26)
  have hN0 := (NewB.alloc w zE6 26).1
  have hX := isType_any (hp.below hB0) (hv.below hB0)
  rw [hb] at hX
  have HN := Hd.mk hN0
  have HB := Hd.mk hB0
  clear hN0 hB0
  go_enter Tryd.func55, Tryd.ntmps55
  go_wp2_with (first
    | (go_at_call 26; (with_reducible refine hX.mono ?_); rintro e w1 ⟨rfl, hb1⟩; have hp1 := (hp.below HB.out).below hb1; have hG1 := Hd.mk (grown_of_below (HB.out.trans (hb1.mono HB.out.size)) (some g)); have HN1 := Hd.mk (keep_blk HN.out (grown_of_below hb1 (some g)) (Nat.ne_of_gt hgl)))
    | (go_at_call 42; have hn := now_any hp1; rw [hk1] at hn; (with_reducible refine hn.mono ?_); rintro e w2 ⟨rfl, hb2⟩; have hbt := Hd.mk (below_alloc (Below.refl w2.heap.size w2) (.cells #[.int .i64 1, .string (nowT l i ln cl).text, .int .i64 (nowT l i ln cl).line, .int .i64 (nowT l i ln cl).col, .int .u32 (nowT l i ln cl).num] 99)); have hp2 := (hp1.below hb2).below hbt.out; have hG2 := Hd.mk (grown_below (grown_below hG1.out hb2) hbt.out); have HN2 := Hd.mk (keep_blk (keep_blk HN1.out (grown_of_below hb2 (some g)) (Nat.ne_of_gt hgl)) (grown_of_below hbt.out (some g)) (Nat.ne_of_gt hgl)))
    | (go_at_call 44; (with_reducible refine (name_ok hp2 hk1 hi).mono ?_); rintro e w3 ⟨rfl, hp3, hg3⟩)
    | (go_at_call 38; have hm4 := may_any ⟨#[91]⟩ hp3 (fun hx => isK_lt hx); rw [hK1] at hm4; simp only [Bool.false_eq_true, if_false] at hm4; (with_reducible refine hm4.mono ?_); rintro e w4 ⟨rfl, hp4, hg4⟩)
    | (go_at_call 38; have hm5 := may_any ⟨#[40]⟩ hp4 (fun hx => isK_lt hx); rw [hK2] at hm5; simp only [Bool.false_eq_true, if_false] at hm5; (with_reducible refine hm5.mono ?_); rintro e w5 ⟨rfl, hp5, hg5⟩; have hN5 := keep_blk HN2.out (grown_trans hg3 (grown_trans hg4 hg5)) (Nat.ne_of_gt hgl); obtain ⟨q0, q1, q2, q3, q4, q5⟩ := cells6 hN5; obtain ⟨f0, f1, f2, f3, f4, f5⟩ := froz6 hN5; have hbl := heap_lt' hN5)
    | fail)
  have hZ := put6 hN5 (.int .i64 2) (.int .i64 0) (.int .i64 0) (.int .u32 0) (.string (nowT l i ln cl).text) (.slice none 0 0)
  have hGF := grown_over (grown_trans hG2.out (grown_trans hg3 (grown_trans hg4 hg5))) hZ.2 (Nat.le_refl _)
  refine bodyPost_ret (results_cell_row rfl _ _ _ 26 _ (0, 0) _ rfl hZ.1 Tryd.underlying26 rfl (by kernel_rfl)) rfl ?_
  exact ⟨hGF, i + 1, _, rfl, hp.fin hGF hp5 hZ.2 (by omega), rfl, none, 0, rfl, Kd.R_nil _ _ _ _ _⟩
set_option maxRecDepth 100000 in
theorem index_ok (hk : Spec B g A c l ln cl k) (hB : B ≤ g) (w : World) (i : Nat) (hp : Pa w g A c l i ln cl) (hv : Pv B w)
    (hb : (typN (nowT l i ln cl).text != 0 && (nowT l i ln cl).kind == 2) = false) (hk1 : (nowT l i ln cl).kind = 1) (hK1 : isK ⟨#[91]⟩ (nowT l (i + 1) ln cl) = true) (x : SE) (rest : List Fp.Key) (he : Fp.expr k 1 (ks l (i + 1 + 1)) = some (.ok x rest)) (hJ : Fp.isT [93] rest = true) :
    Calls Tryd.prog 55 #[.pointer (some ⟨g, 0, none⟩)] w (Out (ExR g) w g A c l ln cl (.ok (Fp.eIndex (nowT l i ln cl).text.data.toList x) rest.tail)) := by
  have hi : i < l.length := kind_lt (ln := ln) (cl := cl) (by omega)
  have hl := hp.len
  have hpos := hp.pos
  have hgl := hp.lt
  have e1 : IntKind.i64.wrap ((i : Int) + 1) = (i : Int) + 1 := IntWalk.i64_in _ (by omega)
  have hB0 := below_alloc (Below.refl w.heap.size w) (.cells zE6 26)
  have hN0 := (NewB.alloc w zE6 26).1
  have hX := isType_any (hp.below hB0) (hv.below hB0)
  rw [hb] at hX
  have HN := Hd.mk hN0
  have HB := Hd.mk hB0
  clear hN0 hB0
  go_enter Tryd.func55, Tryd.ntmps55
  go_wp2_with (first
    | (go_at_call 26; (with_reducible refine hX.mono ?_); rintro e w1 ⟨rfl, hb1⟩; have hp1 := (hp.below HB.out).below hb1; have hG1 := Hd.mk (grown_of_below (HB.out.trans (hb1.mono HB.out.size)) (some g)); have HN1 := Hd.mk (keep_blk HN.out (grown_of_below hb1 (some g)) (Nat.ne_of_gt hgl)))
    | (go_at_call 42; have hn := now_any hp1; rw [hk1] at hn; (with_reducible refine hn.mono ?_); rintro e w2 ⟨rfl, hb2⟩; have hbt := Hd.mk (below_alloc (Below.refl w2.heap.size w2) (.cells #[.int .i64 1, .string (nowT l i ln cl).text, .int .i64 (nowT l i ln cl).line, .int .i64 (nowT l i ln cl).col, .int .u32 (nowT l i ln cl).num] 99)); have hp2 := (hp1.below hb2).below hbt.out; have hG2 := Hd.mk (grown_below (grown_below hG1.out hb2) hbt.out); have HN2 := Hd.mk (keep_blk (keep_blk HN1.out (grown_of_below hb2 (some g)) (Nat.ne_of_gt hgl)) (grown_of_below hbt.out (some g)) (Nat.ne_of_gt hgl)))
    | (go_at_call 44; (with_reducible refine (name_ok hp2 hk1 hi).mono ?_); rintro e w3 ⟨rfl, hp3, hg3⟩)
    | (go_at_call 38; have hm4 := may_any ⟨#[91]⟩ hp3 (fun hx => isK_lt hx); rw [hK1] at hm4; simp only [if_true] at hm4; (with_reducible refine hm4.mono ?_); rintro e w4 ⟨rfl, hp4, hg4⟩)
    | (go_at_call 18; (with_reducible refine (hk.expr1 w4 _ _ hp4 (hv.grown (grown_trans hG2.out (grown_trans hg3 hg4)) hB) he).mono ?_); rintro e w6 ⟨hg6, i', v, hr, hp6, rfl, A5, c5, rfl, hR⟩; have hK9 := K_of (s := ⟨#[93]⟩) (ln := ln) (cl := cl) hr hJ; have hbe := Hd.mk (below_alloc (Below.refl w6.heap.size w6) (.cells #[.int .i64 x.f0, .int .i64 x.f1, .int .i64 x.f2, .int .u32 x.f3, .string x.f4, .slice A5 x.f5.length c5] 26)); have hp7 := hp6.below hbe.out; have hE := Hd.mk (NewB.alloc w6 #[.int .i64 x.f0, .int .i64 x.f1, .int .i64 x.f2, .int .u32 x.f3, .string x.f4, .slice A5 x.f5.length c5] 26).1; have HN6 := Hd.mk (keep_blk HN2.out (grown_trans (grown_trans hg3 hg4) (grown_trans hg6 (grown_of_below hbe.out (some g)))) (Nat.ne_of_gt hgl)); have hG6 := Hd.mk (grown_trans (grown_trans hG2.out (grown_trans hg3 hg4)) (grown_trans hg6 (grown_of_below hbe.out (some g)))); have hg6l := hp6.lt)
    | (go_at_call 24; (with_reducible refine (must_ok ⟨#[93]⟩ hp7 hK9 (isK_lt hK9)).mono ?_); rintro e w8 ⟨rfl, hp8, hg8⟩; have hE8 := keep_blk hE.out hg8 (Nat.ne_of_gt hg6l); obtain ⟨y0, y1, y2, y3, y4, y5⟩ := cells6 hE8; have hbl2 := heap_lt' hE8; have hN8 := keep_blk HN6.out hg8 (Nat.ne_of_gt hgl); obtain ⟨q0, q1, q2, q3, q4, q5⟩ := cells6 hN8; obtain ⟨f0, f1, f2, f3, f4, f5⟩ := froz6 hN8; have hbl := heap_lt' hN8)
    | fail)
  have hR4 := Kd.R_grown (Kd.R_alloc hR (.cells #[.int .i64 x.f0, .int .i64 x.f1, .int .i64 x.f2, .int .u32 x.f3, .string x.f4, .slice A5 x.f5.length c5] 26)) hg8 (fun k hk e => hk (Option.some.inj e))
  have hZ := fin_one (.int .i64 3) (.int .i64 0) (.int .i64 0) (.int .u32 0) (.string (nowT l i ln cl).text) hp (grown_trans hG6.out hg8) hN8 hp8 hR4 (by have h1 := heap_lt' HN2.out; have h2 := hg3.size; have h3 := hg4.size; omega) rfl
  refine bodyPost_ret (results_cell_row rfl _ _ _ 26 _ (0, 0) _ rfl hZ.1 Tryd.underlying26 rfl (by kernel_rfl)) rfl ?_
  exact ⟨hZ.2.1, i' + 1, _, by rw [hr, tail_K (isK_lt hK9)], hZ.2.2.1, rfl, _, 1, rfl, hZ.2.2.2⟩
set_option maxRecDepth 100000 in
theorem index_bad2 (hk : Spec B g A c l ln cl k) (hB : B ≤ g) (w : World) (i : Nat) (hp : Pa w g A c l i ln cl) (hv : Pv B w)
    (hb : (typN (nowT l i ln cl).text != 0 && (nowT l i ln cl).kind == 2) = false) (hk1 : (nowT l i ln cl).kind = 1) (hK1 : isK ⟨#[91]⟩ (nowT l (i + 1) ln cl) = true) (rest : List Fp.Key) (he : Fp.expr k 1 (ks l (i + 1 + 1)) = some (.bad rest)) :
    Calls Tryd.prog 55 #[.pointer (some ⟨g, 0, none⟩)] w (Out (ExR g) w g A c l ln cl (.bad rest)) := by
  have hi : i < l.length := kind_lt (ln := ln) (cl := cl) (by omega)
  have hl := hp.len
  have hpos := hp.pos
  have hgl := hp.lt
  have e1 : IntKind.i64.wrap ((i : Int) + 1) = (i : Int) + 1 := IntWalk.i64_in _ (by omega)
  have hB0 := below_alloc (Below.refl w.heap.size w) (.cells zE6 26)
  have hN0 := (NewB.alloc w zE6 26).1
  have hX := isType_any (hp.below hB0) (hv.below hB0)
  rw [hb] at hX
  have HN := Hd.mk hN0
  have HB := Hd.mk hB0
  clear hN0 hB0
  go_enter Tryd.func55, Tryd.ntmps55
  go_wp2_with (first
    | (go_at_call 26; (with_reducible refine hX.mono ?_); rintro e w1 ⟨rfl, hb1⟩; have hp1 := (hp.below HB.out).below hb1; have hG1 := Hd.mk (grown_of_below (HB.out.trans (hb1.mono HB.out.size)) (some g)); have HN1 := Hd.mk (keep_blk HN.out (grown_of_below hb1 (some g)) (Nat.ne_of_gt hgl)))
    | (go_at_call 42; have hn := now_any hp1; rw [hk1] at hn; (with_reducible refine hn.mono ?_); rintro e w2 ⟨rfl, hb2⟩; have hbt := Hd.mk (below_alloc (Below.refl w2.heap.size w2) (.cells #[.int .i64 1, .string (nowT l i ln cl).text, .int .i64 (nowT l i ln cl).line, .int .i64 (nowT l i ln cl).col, .int .u32 (nowT l i ln cl).num] 99)); have hp2 := (hp1.below hb2).below hbt.out; have hG2 := Hd.mk (grown_below (grown_below hG1.out hb2) hbt.out); have HN2 := Hd.mk (keep_blk (keep_blk HN1.out (grown_of_below hb2 (some g)) (Nat.ne_of_gt hgl)) (grown_of_below hbt.out (some g)) (Nat.ne_of_gt hgl)))
    | (go_at_call 44; (with_reducible refine (name_ok hp2 hk1 hi).mono ?_); rintro e w3 ⟨rfl, hp3, hg3⟩)
    | (go_at_call 38; have hm4 := may_any ⟨#[91]⟩ hp3 (fun hx => isK_lt hx); rw [hK1] at hm4; simp only [if_true] at hm4; (with_reducible refine hm4.mono ?_); rintro e w4 ⟨rfl, hp4, hg4⟩)
    | (go_at_call 18; (with_reducible refine (hk.expr1 w4 _ _ hp4 (hv.grown (grown_trans hG2.out (grown_trans hg3 hg4)) hB) he).mono ?_); rintro e w6 ⟨hg6, i', hr, hi', rfl⟩)
    | fail)
  exact ⟨rfl, grown_trans (grown_trans hG2.out (grown_trans hg3 hg4)) hg6, i', by first | rfl | exact hr, hi', rfl⟩
set_option maxRecDepth 100000 in
theorem index_bad3 (hk : Spec B g A c l ln cl k) (hB : B ≤ g) (w : World) (i : Nat) (hp : Pa w g A c l i ln cl) (hv : Pv B w)
    (hb : (typN (nowT l i ln cl).text != 0 && (nowT l i ln cl).kind == 2) = false) (hk1 : (nowT l i ln cl).kind = 1) (hK1 : isK ⟨#[91]⟩ (nowT l (i + 1) ln cl) = true) (x : SE) (rest : List Fp.Key) (he : Fp.expr k 1 (ks l (i + 1 + 1)) = some (.ok x rest)) (hJ : Fp.isT [93] rest = false) :
    Calls Tryd.prog 55 #[.pointer (some ⟨g, 0, none⟩)] w (Out (ExR g) w g A c l ln cl (.bad rest)) := by
  have hi : i < l.length := kind_lt (ln := ln) (cl := cl) (by omega)
  have hl := hp.len
  have hpos := hp.pos
  have hgl := hp.lt
  have e1 : IntKind.i64.wrap ((i : Int) + 1) = (i : Int) + 1 := IntWalk.i64_in _ (by omega)
  have hB0 := below_alloc (Below.refl w.heap.size w) (.cells zE6 26)
  have hN0 := (NewB.alloc w zE6 26).1
  have hX := isType_any (hp.below hB0) (hv.below hB0)
  rw [hb] at hX
  have HN := Hd.mk hN0
  have HB := Hd.mk hB0
  clear hN0 hB0
  go_enter Tryd.func55, Tryd.ntmps55
  go_wp2_with (first
    | (go_at_call 26; (with_reducible refine hX.mono ?_); rintro e w1 ⟨rfl, hb1⟩; have hp1 := (hp.below HB.out).below hb1; have hG1 := Hd.mk (grown_of_below (HB.out.trans (hb1.mono HB.out.size)) (some g)); have HN1 := Hd.mk (keep_blk HN.out (grown_of_below hb1 (some g)) (Nat.ne_of_gt hgl)))
    | (go_at_call 42; have hn := now_any hp1; rw [hk1] at hn; (with_reducible refine hn.mono ?_); rintro e w2 ⟨rfl, hb2⟩; have hbt := Hd.mk (below_alloc (Below.refl w2.heap.size w2) (.cells #[.int .i64 1, .string (nowT l i ln cl).text, .int .i64 (nowT l i ln cl).line, .int .i64 (nowT l i ln cl).col, .int .u32 (nowT l i ln cl).num] 99)); have hp2 := (hp1.below hb2).below hbt.out; have hG2 := Hd.mk (grown_below (grown_below hG1.out hb2) hbt.out); have HN2 := Hd.mk (keep_blk (keep_blk HN1.out (grown_of_below hb2 (some g)) (Nat.ne_of_gt hgl)) (grown_of_below hbt.out (some g)) (Nat.ne_of_gt hgl)))
    | (go_at_call 44; (with_reducible refine (name_ok hp2 hk1 hi).mono ?_); rintro e w3 ⟨rfl, hp3, hg3⟩)
    | (go_at_call 38; have hm4 := may_any ⟨#[91]⟩ hp3 (fun hx => isK_lt hx); rw [hK1] at hm4; simp only [if_true] at hm4; (with_reducible refine hm4.mono ?_); rintro e w4 ⟨rfl, hp4, hg4⟩)
    | (go_at_call 18; (with_reducible refine (hk.expr1 w4 _ _ hp4 (hv.grown (grown_trans hG2.out (grown_trans hg3 hg4)) hB) he).mono ?_); rintro e w6 ⟨hg6, i', v, hr, hp6, rfl, A5, c5, rfl, hR⟩; have hK9 := K_of (s := ⟨#[93]⟩) (ln := ln) (cl := cl) hr hJ; have hbe := Hd.mk (below_alloc (Below.refl w6.heap.size w6) (.cells #[.int .i64 x.f0, .int .i64 x.f1, .int .i64 x.f2, .int .u32 x.f3, .string x.f4, .slice A5 x.f5.length c5] 26)); have hp7 := hp6.below hbe.out; have hE := Hd.mk (NewB.alloc w6 #[.int .i64 x.f0, .int .i64 x.f1, .int .i64 x.f2, .int .u32 x.f3, .string x.f4, .slice A5 x.f5.length c5] 26).1; have HN6 := Hd.mk (keep_blk HN2.out (grown_trans (grown_trans hg3 hg4) (grown_trans hg6 (grown_of_below hbe.out (some g)))) (Nat.ne_of_gt hgl)); have hG6 := Hd.mk (grown_trans (grown_trans hG2.out (grown_trans hg3 hg4)) (grown_trans hg6 (grown_of_below hbe.out (some g)))); have hg6l := hp6.lt)
    | (go_at_call 24; (with_reducible refine (must_bad ⟨#[93]⟩ hp7 hK9).mono ?_); rintro e w8 ⟨rfl, hg8⟩)
    | fail)
  exact ⟨rfl, grown_trans hG6.out hg8, i', by first | rfl | exact hr, hp6.pos, rfl⟩
set_option maxRecDepth 100000 in
theorem brack_ok (hk : Spec B g A c l ln cl k) (hB : B ≤ g) (w : World) (i : Nat) (hp : Pa w g A c l i ln cl) (hv : Pv B w)
    (hb : (typN (nowT l i ln cl).text != 0 && (nowT l i ln cl).kind == 2) = false) (hk1 : ¬ (nowT l i ln cl).kind = 1) (hk3 : ¬ (nowT l i ln cl).kind = 3) (hK1 : isK ⟨#[40]⟩ (nowT l i ln cl) = true) (x : SE) (rest : List Fp.Key) (he : Fp.expr k 1 (ks l (i + 1)) = some (.ok x rest)) (hJ : Fp.isT [41] rest = true) :
    Calls Tryd.prog 55 #[.pointer (some ⟨g, 0, none⟩)] w (Out (ExR g) w g A c l ln cl (.ok x rest.tail)) := by
  have hl := hp.len
  have hpos := hp.pos
  have hgl := hp.lt
  have e1 : IntKind.i64.wrap ((i : Int) + 1) = (i : Int) + 1 := IntWalk.i64_in _ (by omega)
  have hB0 := below_alloc (Below.refl w.heap.size w) (.cells zE6 26)
  have hN0 := (NewB.alloc w zE6 26).1
  have hX := isType_any (hp.below hB0) (hv.below hB0)
  rw [hb] at hX
  have HN := Hd.mk hN0
  have HB := Hd.mk hB0
  clear hN0 hB0
  go_enter Tryd.func55, Tryd.ntmps55
  go_wp2_with (first
    | (go_at_call 26; (with_reducible refine hX.mono ?_); rintro e w1 ⟨rfl, hb1⟩; have hp1 := (hp.below HB.out).below hb1; have hG1 := Hd.mk (grown_of_below (HB.out.trans (hb1.mono HB.out.size)) (some g)); have HN1 := Hd.mk (keep_blk HN.out (grown_of_below hb1 (some g)) (Nat.ne_of_gt hgl)))
    | (go_at_call 42; have hn := now_any hp1; (with_reducible refine hn.mono ?_); rintro e w2 ⟨rfl, hb2⟩; have hbt := Hd.mk (below_alloc (Below.refl w2.heap.size w2) (.cells #[.int .i64 (nowT l i ln cl).kind, .string (nowT l i ln cl).text, .int .i64 (nowT l i ln cl).line, .int .i64 (nowT l i ln cl).col, .int .u32 (nowT l i ln cl).num] 99)); have hp2 := (hp1.below hb2).below hbt.out; have hG2 := Hd.mk (grown_below (grown_below hG1.out hb2) hbt.out); have HN2 := Hd.mk (keep_blk (keep_blk HN1.out (grown_of_below hb2 (some g)) (Nat.ne_of_gt hgl)) (grown_of_below hbt.out (some g)) (Nat.ne_of_gt hgl)))
    | (go_at_call 24; (with_reducible refine (must_ok ⟨#[40]⟩ hp2 hK1 (isK_lt hK1)).mono ?_); rintro e w3 ⟨rfl, hp3, hg3⟩)
    | (go_at_call 18; (with_reducible refine (hk.expr1 w3 _ _ hp3 (hv.grown (grown_trans hG2.out hg3) hB) he).mono ?_); rintro e w6 ⟨hg6, i', v, hr, hp6, rfl, A5, c5, rfl, hR⟩; have hK9 := K_of (s := ⟨#[41]⟩) (ln := ln) (cl := cl) hr hJ; have hbe := Hd.mk (below_alloc (Below.refl w6.heap.size w6) (.cells #[.int .i64 x.f0, .int .i64 x.f1, .int .i64 x.f2, .int .u32 x.f3, .string x.f4, .slice A5 x.f5.length c5] 26)); have hp7 := hp6.below hbe.out; have hE := Hd.mk (NewB.alloc w6 #[.int .i64 x.f0, .int .i64 x.f1, .int .i64 x.f2, .int .u32 x.f3, .string x.f4, .slice A5 x.f5.length c5] 26).1; have HN6 := Hd.mk (keep_blk HN2.out (grown_trans hg3 (grown_trans hg6 (grown_of_below hbe.out (some g)))) (Nat.ne_of_gt hgl)); have hG6 := Hd.mk (grown_trans (grown_trans hG2.out hg3) (grown_trans hg6 (grown_of_below hbe.out (some g)))); have hg6l := hp6.lt)
    | (go_at_call 24; (with_reducible refine (must_ok ⟨#[41]⟩ hp7 hK9 (isK_lt hK9)).mono ?_); rintro e w8 ⟨rfl, hp8, hg8⟩; have hE8 := keep_blk hE.out hg8 (Nat.ne_of_gt hg6l); obtain ⟨y0, y1, y2, y3, y4, y5⟩ := cells6 hE8; have hbl2 := heap_lt' hE8; have hN8 := keep_blk HN6.out hg8 (Nat.ne_of_gt hgl); obtain ⟨q0, q1, q2, q3, q4, q5⟩ := cells6 hN8; obtain ⟨f0, f1, f2, f3, f4, f5⟩ := froz6 hN8; have hbl := heap_lt' hN8)
    | fail)
  have hR4 := Kd.R_grown (Kd.R_alloc hR (.cells #[.int .i64 x.f0, .int .i64 x.f1, .int .i64 x.f2, .int .u32 x.f3, .string x.f4, .slice A5 x.f5.length c5] 26)) hg8 (fun k hk e => hk (Option.some.inj e))
  have hZ := put6 hN8 (.int .i64 x.f0) (.int .i64 x.f1) (.int .i64 x.f2) (.int .u32 x.f3) (.string x.f4) (.slice A5 x.f5.length c5)
  have hGF := grown_over (grown_trans hG6.out hg8) hZ.2 (Nat.le_refl _)
  have hlt : w.heap.size < w3.heap.size := by have h1 := heap_lt' HN2.out; have h2 := hg3.size; omega
  refine bodyPost_ret (results_cell_row rfl _ _ _ 26 _ (0, 0) _ rfl hZ.1 Tryd.underlying26 rfl (by kernel_rfl)) rfl ?_
  exact ⟨hGF, i' + 1, _, by rw [hr, tail_K (isK_lt hK9)], hp.fin hGF hp8 hZ.2 (by omega), rfl, A5, c5, rfl, R_fin hR4 hZ.2 hlt (Nat.le_of_lt hlt)⟩
set_option maxRecDepth 100000 in
theorem brack_bad1 (hk : Spec B g A c l ln cl k) (hB : B ≤ g) (w : World) (i : Nat) (hp : Pa w g A c l i ln cl) (hv : Pv B w)
    (hb : (typN (nowT l i ln cl).text != 0 && (nowT l i ln cl).kind == 2) = false) (hk1 : ¬ (nowT l i ln cl).kind = 1) (hk3 : ¬ (nowT l i ln cl).kind = 3) (hK1 : isK ⟨#[40]⟩ (nowT l i ln cl) = false) (rest : List Fp.Key) (hr : rest = ks l i) :
    Calls Tryd.prog 55 #[.pointer (some ⟨g, 0, none⟩)] w (Out (ExR g) w g A c l ln cl (.bad rest)) := by
  have hl := hp.len
  have hpos := hp.pos
  have hgl := hp.lt
  have e1 : IntKind.i64.wrap ((i : Int) + 1) = (i : Int) + 1 := IntWalk.i64_in _ (by omega)
  have hB0 := below_alloc (Below.refl w.heap.size w) (.cells zE6 26)
  have hN0 := (NewB.alloc w zE6 26).1
  have hX := isType_any (hp.below hB0) (hv.below hB0)
  rw [hb] at hX
  have HN := Hd.mk hN0
  have HB := Hd.mk hB0
  clear hN0 hB0
  go_enter Tryd.func55, Tryd.ntmps55
  go_wp2_with (first
    | (go_at_call 26; (with_reducible refine hX.mono ?_); rintro e w1 ⟨rfl, hb1⟩; have hp1 := (hp.below HB.out).below hb1; have hG1 := Hd.mk (grown_of_below (HB.out.trans (hb1.mono HB.out.size)) (some g)); have HN1 := Hd.mk (keep_blk HN.out (grown_of_below hb1 (some g)) (Nat.ne_of_gt hgl)))
    | (go_at_call 42; have hn := now_any hp1; (with_reducible refine hn.mono ?_); rintro e w2 ⟨rfl, hb2⟩; have hbt := Hd.mk (below_alloc (Below.refl w2.heap.size w2) (.cells #[.int .i64 (nowT l i ln cl).kind, .string (nowT l i ln cl).text, .int .i64 (nowT l i ln cl).line, .int .i64 (nowT l i ln cl).col, .int .u32 (nowT l i ln cl).num] 99)); have hp2 := (hp1.below hb2).below hbt.out; have hG2 := Hd.mk (grown_below (grown_below hG1.out hb2) hbt.out); have HN2 := Hd.mk (keep_blk (keep_blk HN1.out (grown_of_below hb2 (some g)) (Nat.ne_of_gt hgl)) (grown_of_below hbt.out (some g)) (Nat.ne_of_gt hgl)))
    | (go_at_call 24; (with_reducible refine (must_bad ⟨#[40]⟩ hp2 hK1).mono ?_); rintro e w3 ⟨rfl, hg3⟩)
    | fail)
  exact ⟨rfl, grown_trans hG2.out hg3, i, by first | rfl | exact hr, hp.pos, rfl⟩
set_option maxRecDepth 100000 in
theorem brack_bad2 (hk : Spec B g A c l ln cl k) (hB : B ≤ g) (w : World) (i : Nat) (hp : Pa w g A c l i ln cl) (hv : Pv B w)
    (hb : (typN (nowT l i ln cl).text != 0 && (nowT l i ln cl).kind == 2) = false) (hk1 : ¬ (nowT l i ln cl).kind = 1) (hk3 : ¬ (nowT l i ln cl).kind = 3) (hK1 : isK ⟨#[40]⟩ (nowT l i ln cl) = true) (rest : List Fp.Key) (he : Fp.expr k 1 (ks l (i + 1)) = some (.bad rest)) :
    Calls Tryd.prog 55 #[.pointer (some ⟨g, 0, none⟩)] w (Out (ExR g) w g A c l ln cl (.bad rest)) := by
  have hl := hp.len
  have hpos := hp.pos
  have hgl := hp.lt
  have e1 : IntKind.i64.wrap ((i : Int) + 1) = (i : Int) + 1 := IntWalk.i64_in _ (by omega)
  have hB0 := below_alloc (Below.refl w.heap.size w) (.cells zE6 26)
  have hN0 := (NewB.alloc w zE6 26).1
  have hX := isType_any (hp.below hB0) (hv.below hB0)
  rw [hb] at hX
  have HN := Hd.mk hN0
  have HB := Hd.mk hB0
  clear hN0 hB0
  go_enter Tryd.func55, Tryd.ntmps55
  go_wp2_with (first
    | (go_at_call 26; (with_reducible refine hX.mono ?_); rintro e w1 ⟨rfl, hb1⟩; have hp1 := (hp.below HB.out).below hb1; have hG1 := Hd.mk (grown_of_below (HB.out.trans (hb1.mono HB.out.size)) (some g)); have HN1 := Hd.mk (keep_blk HN.out (grown_of_below hb1 (some g)) (Nat.ne_of_gt hgl)))
    | (go_at_call 42; have hn := now_any hp1; (with_reducible refine hn.mono ?_); rintro e w2 ⟨rfl, hb2⟩; have hbt := Hd.mk (below_alloc (Below.refl w2.heap.size w2) (.cells #[.int .i64 (nowT l i ln cl).kind, .string (nowT l i ln cl).text, .int .i64 (nowT l i ln cl).line, .int .i64 (nowT l i ln cl).col, .int .u32 (nowT l i ln cl).num] 99)); have hp2 := (hp1.below hb2).below hbt.out; have hG2 := Hd.mk (grown_below (grown_below hG1.out hb2) hbt.out); have HN2 := Hd.mk (keep_blk (keep_blk HN1.out (grown_of_below hb2 (some g)) (Nat.ne_of_gt hgl)) (grown_of_below hbt.out (some g)) (Nat.ne_of_gt hgl)))
    | (go_at_call 24; (with_reducible refine (must_ok ⟨#[40]⟩ hp2 hK1 (isK_lt hK1)).mono ?_); rintro e w3 ⟨rfl, hp3, hg3⟩)
    | (go_at_call 18; (with_reducible refine (hk.expr1 w3 _ _ hp3 (hv.grown (grown_trans hG2.out hg3) hB) he).mono ?_); rintro e w6 ⟨hg6, i', hr, hi', rfl⟩)
    | fail)
  exact ⟨rfl, grown_trans (grown_trans hG2.out hg3) hg6, i', by first | rfl | exact hr, hi', rfl⟩
set_option maxRecDepth 100000 in
theorem brack_bad3 (hk : Spec B g A c l ln cl k) (hB : B ≤ g) (w : World) (i : Nat) (hp : Pa w g A c l i ln cl) (hv : Pv B w)
    (hb : (typN (nowT l i ln cl).text != 0 && (nowT l i ln cl).kind == 2) = false) (hk1 : ¬ (nowT l i ln cl).kind = 1) (hk3 : ¬ (nowT l i ln cl).kind = 3) (hK1 : isK ⟨#[40]⟩ (nowT l i ln cl) = true) (x : SE) (rest : List Fp.Key) (he : Fp.expr k 1 (ks l (i + 1)) = some (.ok x rest)) (hJ : Fp.isT [41] rest = false) :
    Calls Tryd.prog 55 #[.pointer (some ⟨g, 0, none⟩)] w (Out (ExR g) w g A c l ln cl (.bad rest)) := by
  have hl := hp.len
  have hpos := hp.pos
  have hgl := hp.lt
  have e1 : IntKind.i64.wrap ((i : Int) + 1) = (i : Int) + 1 := IntWalk.i64_in _ (by omega)
  have hB0 := below_alloc (Below.refl w.heap.size w) (.cells zE6 26)
  have hN0 := (NewB.alloc w zE6 26).1
  have hX := isType_any (hp.below hB0) (hv.below hB0)
  rw [hb] at hX
  have HN := Hd.mk hN0
  have HB := Hd.mk hB0
  clear hN0 hB0
  go_enter Tryd.func55, Tryd.ntmps55
  go_wp2_with (first
    | (go_at_call 26; (with_reducible refine hX.mono ?_); rintro e w1 ⟨rfl, hb1⟩; have hp1 := (hp.below HB.out).below hb1; have hG1 := Hd.mk (grown_of_below (HB.out.trans (hb1.mono HB.out.size)) (some g)); have HN1 := Hd.mk (keep_blk HN.out (grown_of_below hb1 (some g)) (Nat.ne_of_gt hgl)))
    | (go_at_call 42; have hn := now_any hp1; (with_reducible refine hn.mono ?_); rintro e w2 ⟨rfl, hb2⟩; have hbt := Hd.mk (below_alloc (Below.refl w2.heap.size w2) (.cells #[.int .i64 (nowT l i ln cl).kind, .string (nowT l i ln cl).text, .int .i64 (nowT l i ln cl).line, .int .i64 (nowT l i ln cl).col, .int .u32 (nowT l i ln cl).num] 99)); have hp2 := (hp1.below hb2).below hbt.out; have hG2 := Hd.mk (grown_below (grown_below hG1.out hb2) hbt.out); have HN2 := Hd.mk (keep_blk (keep_blk HN1.out (grown_of_below hb2 (some g)) (Nat.ne_of_gt hgl)) (grown_of_below hbt.out (some g)) (Nat.ne_of_gt hgl)))
    | (go_at_call 24; (with_reducible refine (must_ok ⟨#[40]⟩ hp2 hK1 (isK_lt hK1)).mono ?_); rintro e w3 ⟨rfl, hp3, hg3⟩)
    | (go_at_call 18; (with_reducible refine (hk.expr1 w3 _ _ hp3 (hv.grown (grown_trans hG2.out hg3) hB) he).mono ?_); rintro e w6 ⟨hg6, i', v, hr, hp6, rfl, A5, c5, rfl, hR⟩; have hK9 := K_of (s := ⟨#[41]⟩) (ln := ln) (cl := cl) hr hJ; have hbe := Hd.mk (below_alloc (Below.refl w6.heap.size w6) (.cells #[.int .i64 x.f0, .int .i64 x.f1, .int .i64 x.f2, .int .u32 x.f3, .string x.f4, .slice A5 x.f5.length c5] 26)); have hp7 := hp6.below hbe.out; have hE := Hd.mk (NewB.alloc w6 #[.int .i64 x.f0, .int .i64 x.f1, .int .i64 x.f2, .int .u32 x.f3, .string x.f4, .slice A5 x.f5.length c5] 26).1; have HN6 := Hd.mk (keep_blk HN2.out (grown_trans hg3 (grown_trans hg6 (grown_of_below hbe.out (some g)))) (Nat.ne_of_gt hgl)); have hG6 := Hd.mk (grown_trans (grown_trans hG2.out hg3) (grown_trans hg6 (grown_of_below hbe.out (some g)))); have hg6l := hp6.lt)
    | (go_at_call 24; (with_reducible refine (must_bad ⟨#[41]⟩ hp7 hK9).mono ?_); rintro e w8 ⟨rfl, hg8⟩)
    | fail)
  exact ⟨rfl, grown_trans hG6.out hg8, i', by first | rfl | exact hr, hp6.pos, rfl⟩
set_option maxRecDepth 100000 in
theorem call_ok (hk : Spec B g A c l ln cl k) (hB : B ≤ g) (w : World) (i : Nat) (hp : Pa w g A c l i ln cl) (hv : Pv B w)
    (hb : (typN (nowT l i ln cl).text != 0 && (nowT l i ln cl).kind == 2) = false) (hk1 : (nowT l i ln cl).kind = 1) (hK1 : isK ⟨#[91]⟩ (nowT l (i + 1) ln cl) = false) (hK2 : isK ⟨#[40]⟩ (nowT l (i + 1) ln cl) = true) (x : List SE) (rest : List Fp.Key) (he : Fp.args k (ks l (i + 1 + 1)) = some (.ok x rest)) :
    Calls Tryd.prog 55 #[.pointer (some ⟨g, 0, none⟩)] w (Out (ExR g) w g A c l ln cl (.ok (Fp.eCall (nowT l i ln cl).text.data.toList x) rest)) := by
  have hi : i < l.length := kind_lt (ln := ln) (cl := cl) (by omega)
  have hl := hp.len
  have hpos := hp.pos
  have hgl := hp.lt
  have e1 : IntKind.i64.wrap ((i : Int) + 1) = (i : Int) + 1 := IntWalk.i64_in _ (by omega)
  have hB0 := below_alloc (Below.refl w.heap.size w) (.cells zE6 26)
  have hN0 := (NewB.alloc w zE6 26).1
  have hX := isType_any (hp.below hB0) (hv.below hB0)
  rw [hb] at hX
  have HN := Hd.mk hN0
  have HB := Hd.mk hB0
  clear hN0 hB0
  go_enter Tryd.func55, Tryd.ntmps55
  go_wp2_with (first
    | (go_at_call 26; (with_reducible refine hX.mono ?_); rintro e w1 ⟨rfl, hb1⟩; have hp1 := (hp.below HB.out).below hb1; have hG1 := Hd.mk (grown_of_below (HB.out.trans (hb1.mono HB.out.size)) (some g)); have HN1 := Hd.mk (keep_blk HN.out (grown_of_below hb1 (some g)) (Nat.ne_of_gt hgl)))
    | (go_at_call 42; have hn := now_any hp1; rw [hk1] at hn; (with_reducible refine hn.mono ?_); rintro e w2 ⟨rfl, hb2⟩; have hbt := Hd.mk (below_alloc (Below.refl w2.heap.size w2) (.cells #[.int .i64 1, .string (nowT l i ln cl).text, .int .i64 (nowT l i ln cl).line, .int .i64 (nowT l i ln cl).col, .int .u32 (nowT l i ln cl).num] 99)); have hp2 := (hp1.below hb2).below hbt.out; have hG2 := Hd.mk (grown_below (grown_below hG1.out hb2) hbt.out); have HN2 := Hd.mk (keep_blk (keep_blk HN1.out (grown_of_below hb2 (some g)) (Nat.ne_of_gt hgl)) (grown_of_below hbt.out (some g)) (Nat.ne_of_gt hgl)))
    | (go_at_call 44; (with_reducible refine (name_ok hp2 hk1 hi).mono ?_); rintro e w3 ⟨rfl, hp3, hg3⟩)
    | (go_at_call 38; have hm4 := may_any ⟨#[91]⟩ hp3 (fun hx => isK_lt hx); rw [hK1] at hm4; simp only [Bool.false_eq_true, if_false] at hm4; (with_reducible refine hm4.mono ?_); rintro e w4 ⟨rfl, hp4, hg4⟩)
    | (go_at_call 38; have hm5 := may_any ⟨#[40]⟩ hp4 (fun hx => isK_lt hx); rw [hK2] at hm5; simp only [if_true] at hm5; (with_reducible refine hm5.mono ?_); rintro e w5 ⟨rfl, hp5, hg5⟩)
    | (go_at_call 52; (with_reducible refine (hk.args w5 _ _ hp5 (hv.grown (grown_trans hG2.out (grown_trans hg3 (grown_trans hg4 hg5))) hB) he).mono ?_); rintro e w6 ⟨hg6, i', v, hr, hp6, rfl, A5, c5, rfl, hR⟩; have hN6 := keep_blk HN2.out (grown_trans hg3 (grown_trans hg4 (grown_trans hg5 hg6))) (Nat.ne_of_gt hgl); obtain ⟨q0, q1, q2, q3, q4, q5⟩ := cells6 hN6; obtain ⟨f0, f1, f2, f3, f4, f5⟩ := froz6 hN6; have hbl := heap_lt' hN6)
    | fail)
  have hZ := put6 hN6 (.int .i64 4) (.int .i64 0) (.int .i64 0) (.int .u32 0) (.string (nowT l i ln cl).text) (.slice A5 x.length c5)
  have hGF := grown_over (grown_trans (grown_trans hG2.out (grown_trans hg3 (grown_trans hg4 hg5))) hg6) hZ.2 (Nat.le_refl _)
  have hlt : w.heap.size < w5.heap.size := by have h1 := heap_lt' HN2.out; have h2 := hg3.size; have h3 := hg4.size; have h4 := hg5.size; omega
  refine bodyPost_ret (results_cell_row rfl _ _ _ 26 _ (0, 0) _ rfl hZ.1 Tryd.underlying26 rfl (by kernel_rfl)) rfl ?_
  exact ⟨hGF, i', _, by first | rfl | exact hr, hp.fin hGF hp6 hZ.2 (by omega), rfl, A5, c5, rfl, R_fin hR hZ.2 hlt (Nat.le_of_lt hlt)⟩
set_option maxRecDepth 100000 in
theorem call_bad (hk : Spec B g A c l ln cl k) (hB : B ≤ g) (w : World) (i : Nat) (hp : Pa w g A c l i ln cl) (hv : Pv B w)
    (hb : (typN (nowT l i ln cl).text != 0 && (nowT l i ln cl).kind == 2) = false) (hk1 : (nowT l i ln cl).kind = 1) (hK1 : isK ⟨#[91]⟩ (nowT l (i + 1) ln cl) = false) (hK2 : isK ⟨#[40]⟩ (nowT l (i + 1) ln cl) = true) (rest : List Fp.Key) (he : Fp.args k (ks l (i + 1 + 1)) = some (.bad rest)) :
    Calls Tryd.prog 55 #[.pointer (some ⟨g, 0, none⟩)] w (Out (ExR g) w g A c l ln cl (.bad rest)) := by
  have hi : i < l.length := kind_lt (ln := ln) (cl := cl) (by omega)
  have hl := hp.len
  have hpos := hp.pos
  have hgl := hp.lt
  have e1 : IntKind.i64.wrap ((i : Int) + 1) = (i : Int) + 1 := IntWalk.i64_in _ (by omega)
  have hB0 := below_alloc (Below.refl w.heap.size w) (.cells zE6 26)
  have hN0 := (NewB.alloc w zE6 26).1
  have hX := isType_any (hp.below hB0) (hv.below hB0)
  rw [hb] at hX
  have HN := Hd.mk hN0
  have HB := Hd.mk hB0
  clear hN0 hB0
  go_enter Tryd.func55, Tryd.ntmps55
  go_wp2_with (first
    | (go_at_call 26; (with_reducible refine hX.mono ?_); rintro e w1 ⟨rfl, hb1⟩; have hp1 := (hp.below HB.out).below hb1; have hG1 := Hd.mk (grown_of_below (HB.out.trans (hb1.mono HB.out.size)) (some g)); have HN1 := Hd.mk (keep_blk HN.out (grown_of_below hb1 (some g)) (Nat.ne_of_gt hgl)))
    | (go_at_call 42; have hn := now_any hp1; rw [hk1] at hn; (with_reducible refine hn.mono ?_); rintro e w2 ⟨rfl, hb2⟩; have hbt := Hd.mk (below_alloc (Below.refl w2.heap.size w2) (.cells #[.int .i64 1, .string (nowT l i ln cl).text, .int .i64 (nowT l i ln cl).line, .int .i64 (nowT l i ln cl).col, .int .u32 (nowT l i ln cl).num] 99)); have hp2 := (hp1.below hb2).below hbt.out; have hG2 := Hd.mk (grown_below (grown_below hG1.out hb2) hbt.out); have HN2 := Hd.mk (keep_blk (keep_blk HN1.out (grown_of_below hb2 (some g)) (Nat.ne_of_gt hgl)) (grown_of_below hbt.out (some g)) (Nat.ne_of_gt hgl)))
    | (go_at_call 44; (with_reducible refine (name_ok hp2 hk1 hi).mono ?_); rintro e w3 ⟨rfl, hp3, hg3⟩)
    | (go_at_call 38; have hm4 := may_any ⟨#[91]⟩ hp3 (fun hx => isK_lt hx); rw [hK1] at hm4; simp only [Bool.false_eq_true, if_false] at hm4; (with_reducible refine hm4.mono ?_); rintro e w4 ⟨rfl, hp4, hg4⟩)
    | (go_at_call 38; have hm5 := may_any ⟨#[40]⟩ hp4 (fun hx => isK_lt hx); rw [hK2] at hm5; simp only [if_true] at hm5; (with_reducible refine hm5.mono ?_); rintro e w5 ⟨rfl, hp5, hg5⟩)
    | (go_at_call 52; (with_reducible refine (hk.args w5 _ _ hp5 (hv.grown (grown_trans hG2.out (grown_trans hg3 (grown_trans hg4 hg5))) hB) he).mono ?_); rintro e w6 ⟨hg6, i', hr, hi', rfl⟩)
    | fail)
  exact ⟨rfl, grown_trans (grown_trans hG2.out (grown_trans hg3 (grown_trans hg4 hg5))) hg6, i', by first | rfl | exact hr, hi', rfl⟩
end
end Go.Proofs.YtnjnadlgndjnbaaDoor.Pk
end

section
set_option linter.unusedVariables false
set_option linter.unusedSimpArgs false
namespace Go.Proofs.YtnjnadlgndjnbaaDoor.Pk
open Go.RowKit Go.Proofs.YtnjnadlgndjnbaaDoorW.PrintWords Go.Proofs.YtnjnadlgndjnbaaDoorW.PrintLast Go.Proofs.YtnjnadlgndjnbaaDoorW.PrintMore Go.Proofs.YtnjnadlgndjnbaaDoor.Lx
section
variable {B g : Nat} {A : Option Addr} {c : Nat} {l : List Tk} {ln cl : Int} {k : Nat}
theorem primary_step (hk : Spec B g A c l ln cl k) (hB : B ≤ g) (w : World) (i : Nat) (r : Fp.Res SE) (hp : Pa w g A c l i ln cl) (hv : Pv B w)
    (h : Fp.primary (k + 1) (ks l i) = some r) : Calls Tryd.prog 55 #[.pointer (some ⟨g, 0, none⟩)] w (Out (ExR g) w g A c l ln cl r) := by
  cases hb : (typN (nowT l i ln cl).text != 0 && (nowT l i ln cl).kind == 2) with
  | true => exact cast_step hk hB w i r hp hv hb h
  | false =>
    have ht : ¬ Fp.typeAt (ks l i) ≠ 0 := by
      rw [type_K (ln := ln) (cl := cl)]
      cases h2 : ((nowT l i ln cl).kind == 2)
      · simp
      · rw [h2, Bool.and_true] at hb
        simpa using hb
    simp only [Fp.primary, if_neg ht, kind_K (ln := ln) (cl := cl), num_K (ln := ln) (cl := cl), text_K (ln := ln) (cl := cl)] at h
    by_cases hk3 : (nowT l i ln cl).kind = 3
    · have hi : i < l.length := kind_lt (ln := ln) (cl := cl) (by omega)
      rw [if_pos hk3, tail_K hi] at h
      obtain rfl := (Option.some.inj h).symm
      exact prim_num hk hB w i hp hv hb hk3
    · rw [if_neg hk3] at h
      by_cases hk1 : (nowT l i ln cl).kind = 1
      · have hi : i < l.length := kind_lt (ln := ln) (cl := cl) (by omega)
        have e91 : Fp.isT [91] (ks l (i + 1)) = isK ⟨#[91]⟩ (nowT l (i + 1) ln cl) := isT_K ⟨#[91]⟩
        have e40 : Fp.isT [40] (ks l (i + 1)) = isK ⟨#[40]⟩ (nowT l (i + 1) ln cl) := isT_K ⟨#[40]⟩
        rw [if_pos hk1, tail_K hi, e91, e40] at h
        cases hK1 : isK ⟨#[91]⟩ (nowT l (i + 1) ln cl) with
        | true =>
          rw [hK1, if_pos rfl, tail_K (isK_lt hK1)] at h
          cases he : Fp.expr k 1 (ks l (i + 1 + 1)) with
          | none => rw [he] at h; cases h
          | some r1 =>
            rw [he] at h
            cases r1 with
            | bad rest =>
              obtain rfl := (Option.some.inj h).symm
              exact index_bad2 hk hB w i hp hv hb hk1 hK1 _ he
            | ok x rest =>
              simp only [Fp.andThen, Fp.must] at h
              cases hJ : Fp.isT [93] rest with
              | false =>
                rw [hJ] at h
                obtain rfl := (Option.some.inj h).symm
                exact index_bad3 hk hB w i hp hv hb hk1 hK1 _ _ he hJ
              | true =>
                rw [hJ] at h
                obtain rfl := (Option.some.inj h).symm
                exact index_ok hk hB w i hp hv hb hk1 hK1 _ _ he hJ
        | false =>
          rw [hK1, if_neg (by decide)] at h
          cases hK2 : isK ⟨#[40]⟩ (nowT l (i + 1) ln cl) with
          | false =>
            rw [hK2, if_neg (by decide)] at h
            obtain rfl := (Option.some.inj h).symm
            exact prim_var hk hB w i hp hv hb hk1 hK1 hK2
          | true =>
            rw [hK2, if_pos rfl, tail_K (isK_lt hK2)] at h
            cases he : Fp.args k (ks l (i + 1 + 1)) with
            | none => rw [he] at h; cases h
            | some r1 =>
              rw [he] at h
              cases r1 with
              | bad rest =>
                obtain rfl := (Option.some.inj h).symm
                exact call_bad hk hB w i hp hv hb hk1 hK1 hK2 _ he
              | ok x rest =>
                obtain rfl := (Option.some.inj h).symm
                exact call_ok hk hB w i hp hv hb hk1 hK1 hK2 _ _ he
      · have e40 : Fp.isT [40] (ks l i) = isK ⟨#[40]⟩ (nowT l i ln cl) := isT_K ⟨#[40]⟩
        rw [if_neg hk1] at h
        unfold Fp.must at h
        rw [e40] at h
        cases hK1 : isK ⟨#[40]⟩ (nowT l i ln cl) with
        | false =>
          rw [hK1] at h
          obtain rfl := (Option.some.inj h).symm
          exact brack_bad1 hk hB w i hp hv hb hk1 hk3 hK1 _ rfl
        | true =>
          rw [hK1, if_pos rfl, tail_K (isK_lt hK1)] at h
          change Fp.andThen (Fp.expr k 1 (ks l (i + 1))) _ = _ at h
          cases he : Fp.expr k 1 (ks l (i + 1)) with
          | none => rw [he] at h; cases h
          | some r1 =>
            rw [he] at h
            cases r1 with
            | bad rest =>
              obtain rfl := (Option.some.inj h).symm
              exact brack_bad2 hk hB w i hp hv hb hk1 hk3 hK1 _ he
            | ok x rest =>
              simp only [Fp.andThen] at h
              cases hJ : Fp.isT [41] rest with
              | false =>
                rw [hJ] at h
                obtain rfl := (Option.some.inj h).symm
                exact brack_bad3 hk hB w i hp hv hb hk1 hk3 hK1 _ _ he hJ
              | true =>
                rw [hJ] at h
                obtain rfl := (Option.some.inj h).symm
                exact brack_ok hk hB w i hp hv hb hk1 hk3 hK1 _ _ he hJ
end
end Go.Proofs.YtnjnadlgndjnbaaDoor.Pk
end
