/- Parse: unary with an operator. -/
import Derived.Test.YtnjnadlgndjnbaaDoorYKd
section
set_option linter.unusedVariables false
set_option linter.unusedSimpArgs false
namespace Go.Proofs.YtnjnadlgndjnbaaDoor.Pk
open Go.RowKit Go.Proofs.YtnjnadlgndjnbaaDoorW.PrintWords Go.Proofs.YtnjnadlgndjnbaaDoorW.PrintLast Go.Proofs.YtnjnadlgndjnbaaDoorW.PrintMore Go.Proofs.YtnjnadlgndjnbaaDoor.Lx
def mapR {α β : Type} (f : α → β) : Fp.Res α → Fp.Res β
  | .ok a rest => .ok (f a) rest
  | .bad rest => .bad rest
set_option maxRecDepth 100000 in
theorem unary_op {B g : Nat} {A : Option Addr} {c : Nat} {l : List Tk} {ln cl : Int} {k : Nat} (hk : Spec B g A c l ln cl k) (hB : B ≤ g) (w : World) (i : Nat) (r : Fp.Res SE) (hp : Pa w g A c l i ln cl) (hv : Pv B w)
    (N : Nat) (hN1 : 1 ≤ N) (hN3 : N ≤ 3) (h0 : ∀ m, 1 ≤ m → m < N → isK (unS m) (nowT l i ln cl) = false) (hK : isK (unS N) (nowT l i ln cl) = true) (h : Fp.unary k (ks l (i + 1)) = some r) :
    Calls Tryd.prog 37 #[.pointer (some ⟨g, 0, none⟩)] w (Out (ExR g) w g A c l ln cl (mapR (Fp.eUn N) r)) := by
  have hi := isK_lt hK
  go_enter Tryd.func37, Tryd.ntmps37
  go_wp2
  have hP0 := Hd.mk (hp.below (below_alloc (Below.refl w.heap.size w) (.cells zE6 26)))
  have hG0 := Hd.mk (grown_of_below (below_alloc (Below.refl w.heap.size w) (.cells zE6 26)) (some g))
  have hN0 := Hd.mk (NewB.alloc w zE6 26).1
  have hgl := hp.lt
  go_loopw [6] (fun t wr => ∃ n : Int, (0 ≤ n ∧ n ≤ N) ∧ t = .int .i64 n ∧ Hd (Pa wr g A c l i ln cl) ∧ Hd (w.grownBy wr (some g)) ∧ Hd (wr.heap[w.heap.size]? = some (.cells zE6 26 (0, 0)))) (fun t _ => 4 - (intOf t).toNat)
  case atStart => exact ⟨0, by omega, rfl, hP0, hG0, hN0⟩
  case round =>
    clear hP0 hG0 hN0
    obtain ⟨n, hn, rfl, hP, hG, hN⟩ := hrel
    have hn5 : n = 0 ∨ n = 1 ∨ n = 2 ∨ n = 3 := by omega
    rcases hn5 with rfl | rfl | rfl | rfl
    · have hix := ix0 wr
      simp only [unS] at hix
      go_wp2
      exact ⟨⟨1, by omega, rfl, hP, hG, hN⟩, by simp [intOf]⟩
    · have hix := ix1 wr
      by_cases hNe : N = 1
      · subst hNe
        have hm := may_any (unS 1) hP.out (fun _ => hi)
        rw [hK] at hm
        simp only [if_true] at hm
        simp only [unS] at hix hm
        clear hK h0
        cases r with
        | bad rest =>
          go_wp2_with (first | (go_at_call 38; refine hm.mono ?_; rintro e w1 ⟨rfl, hp1, hg1⟩) | (go_at_call 37; refine (hk.unary _ _ _ hp1 (hv.grown (grown_trans hG.out hg1) hB) h).mono ?_; rintro e w2 ⟨hg2, i', hr, hi', rfl⟩))
          exact ⟨rfl, grown_trans hG.out (grown_trans hg1 hg2), i', by first | rfl | exact hr, hi', rfl⟩
        | ok x rest =>
          go_wp2_with (first | (go_at_call 38; refine hm.mono ?_; rintro e w1 ⟨rfl, hp1, hg1⟩) | (go_at_call 37; refine (hk.unary _ _ _ hp1 (hv.grown (grown_trans hG.out hg1) hB) h).mono ?_; rintro e w2 ⟨hg2, i', v, hr, hp2, rfl, A5, c5, rfl, hR⟩; have hN1 := keep_blk hN.out (grown_trans hg1 hg2) (Nat.ne_of_gt hgl); obtain ⟨q0, q1, q2, q3, q4, q5⟩ := cells6 hN1; obtain ⟨f0, f1, f2, f3, f4, f5⟩ := froz6 hN1; have hbl := heap_lt' hN1))
          have hZ := fin_one (.int .i64 5) (.int .i64 1) (.int .i64 0) (.int .u32 0) (.string ⟨#[]⟩) hp (grown_trans hG.out (grown_trans hg1 hg2)) hN1 hp2 hR (Nat.lt_of_lt_of_le (heap_lt' hN.out) hg1.size) rfl
          refine bodyPost_ret (results_cell_row rfl _ _ _ 26 _ (0, 0) _ rfl hZ.1 Tryd.underlying26 rfl (by kernel_rfl)) rfl ?_
          exact ⟨hZ.2.1, i', _, by first | rfl | exact hr, hZ.2.2.1, rfl, _, 1, rfl, hZ.2.2.2⟩
      · have hm := may_any (unS 1) hP.out (fun hx => absurd ((h0 1 (by omega) (by omega)).symm.trans hx) (by decide))
        rw [h0 1 (by omega) (by omega)] at hm
        simp only [Bool.false_eq_true, if_false] at hm
        simp only [unS] at hix hm
        go_wp2_with (go_at_call 38; refine hm.mono ?_; rintro e w1 ⟨rfl, hp1, hg1⟩)
        exact ⟨⟨2, by omega, rfl, ⟨hp1⟩, ⟨grown_trans hG.out hg1⟩, ⟨keep_blk hN.out hg1 (Nat.ne_of_gt hgl)⟩⟩, by simp [intOf]⟩
    · have hix := ix2 wr
      by_cases hNe : N = 2
      · subst hNe
        have hm := may_any (unS 2) hP.out (fun _ => hi)
        rw [hK] at hm
        simp only [if_true] at hm
        simp only [unS] at hix hm
        clear hK h0
        cases r with
        | bad rest =>
          go_wp2_with (first | (go_at_call 38; refine hm.mono ?_; rintro e w1 ⟨rfl, hp1, hg1⟩) | (go_at_call 37; refine (hk.unary _ _ _ hp1 (hv.grown (grown_trans hG.out hg1) hB) h).mono ?_; rintro e w2 ⟨hg2, i', hr, hi', rfl⟩))
          exact ⟨rfl, grown_trans hG.out (grown_trans hg1 hg2), i', by first | rfl | exact hr, hi', rfl⟩
        | ok x rest =>
          go_wp2_with (first | (go_at_call 38; refine hm.mono ?_; rintro e w1 ⟨rfl, hp1, hg1⟩) | (go_at_call 37; refine (hk.unary _ _ _ hp1 (hv.grown (grown_trans hG.out hg1) hB) h).mono ?_; rintro e w2 ⟨hg2, i', v, hr, hp2, rfl, A5, c5, rfl, hR⟩; have hN1 := keep_blk hN.out (grown_trans hg1 hg2) (Nat.ne_of_gt hgl); obtain ⟨q0, q1, q2, q3, q4, q5⟩ := cells6 hN1; obtain ⟨f0, f1, f2, f3, f4, f5⟩ := froz6 hN1; have hbl := heap_lt' hN1))
          have hZ := fin_one (.int .i64 5) (.int .i64 2) (.int .i64 0) (.int .u32 0) (.string ⟨#[]⟩) hp (grown_trans hG.out (grown_trans hg1 hg2)) hN1 hp2 hR (Nat.lt_of_lt_of_le (heap_lt' hN.out) hg1.size) rfl
          refine bodyPost_ret (results_cell_row rfl _ _ _ 26 _ (0, 0) _ rfl hZ.1 Tryd.underlying26 rfl (by kernel_rfl)) rfl ?_
          exact ⟨hZ.2.1, i', _, by first | rfl | exact hr, hZ.2.2.1, rfl, _, 1, rfl, hZ.2.2.2⟩
      · have hm := may_any (unS 2) hP.out (fun hx => absurd ((h0 2 (by omega) (by omega)).symm.trans hx) (by decide))
        rw [h0 2 (by omega) (by omega)] at hm
        simp only [Bool.false_eq_true, if_false] at hm
        simp only [unS] at hix hm
        go_wp2_with (go_at_call 38; refine hm.mono ?_; rintro e w1 ⟨rfl, hp1, hg1⟩)
        exact ⟨⟨3, by omega, rfl, ⟨hp1⟩, ⟨grown_trans hG.out hg1⟩, ⟨keep_blk hN.out hg1 (Nat.ne_of_gt hgl)⟩⟩, by simp [intOf]⟩
    · have hix := ix3 wr
      by_cases hNe : N = 3
      · subst hNe
        have hm := may_any (unS 3) hP.out (fun _ => hi)
        rw [hK] at hm
        simp only [if_true] at hm
        simp only [unS] at hix hm
        clear hK h0
        cases r with
        | bad rest =>
          go_wp2_with (first | (go_at_call 38; refine hm.mono ?_; rintro e w1 ⟨rfl, hp1, hg1⟩) | (go_at_call 37; refine (hk.unary _ _ _ hp1 (hv.grown (grown_trans hG.out hg1) hB) h).mono ?_; rintro e w2 ⟨hg2, i', hr, hi', rfl⟩))
          exact ⟨rfl, grown_trans hG.out (grown_trans hg1 hg2), i', by first | rfl | exact hr, hi', rfl⟩
        | ok x rest =>
          go_wp2_with (first | (go_at_call 38; refine hm.mono ?_; rintro e w1 ⟨rfl, hp1, hg1⟩) | (go_at_call 37; refine (hk.unary _ _ _ hp1 (hv.grown (grown_trans hG.out hg1) hB) h).mono ?_; rintro e w2 ⟨hg2, i', v, hr, hp2, rfl, A5, c5, rfl, hR⟩; have hN1 := keep_blk hN.out (grown_trans hg1 hg2) (Nat.ne_of_gt hgl); obtain ⟨q0, q1, q2, q3, q4, q5⟩ := cells6 hN1; obtain ⟨f0, f1, f2, f3, f4, f5⟩ := froz6 hN1; have hbl := heap_lt' hN1))
          have hZ := fin_one (.int .i64 5) (.int .i64 3) (.int .i64 0) (.int .u32 0) (.string ⟨#[]⟩) hp (grown_trans hG.out (grown_trans hg1 hg2)) hN1 hp2 hR (Nat.lt_of_lt_of_le (heap_lt' hN.out) hg1.size) rfl
          refine bodyPost_ret (results_cell_row rfl _ _ _ 26 _ (0, 0) _ rfl hZ.1 Tryd.underlying26 rfl (by kernel_rfl)) rfl ?_
          exact ⟨hZ.2.1, i', _, by first | rfl | exact hr, hZ.2.2.1, rfl, _, 1, rfl, hZ.2.2.2⟩
      · omega
theorem unary_step {B g : Nat} {A : Option Addr} {c : Nat} {l : List Tk} {ln cl : Int} {k : Nat} (hk : Spec B g A c l ln cl k) (hB : B ≤ g) (w : World) (i : Nat) (r : Fp.Res SE) (hp : Pa w g A c l i ln cl) (hv : Pv B w)
    (h : Fp.unary (k + 1) (ks l i) = some r) : Calls Tryd.prog 37 #[.pointer (some ⟨g, 0, none⟩)] w (Out (ExR g) w g A c l ln cl r) := by
  have e1 : Fp.isT [45] (ks l i) = isK (unS 1) (nowT l i ln cl) := isT_K (unS 1)
  have e2 : Fp.isT [126] (ks l i) = isK (unS 2) (nowT l i ln cl) := isT_K (unS 2)
  have e3 : Fp.isT [33] (ks l i) = isK (unS 3) (nowT l i ln cl) := isT_K (unS 3)
  have key : ∀ N : Nat, 1 ≤ N → N ≤ 3 → (∀ m, 1 ≤ m → m < N → isK (unS m) (nowT l i ln cl) = false) → isK (unS N) (nowT l i ln cl) = true → Fp.unOp (ks l i) = N →
      Calls Tryd.prog 37 #[.pointer (some ⟨g, 0, none⟩)] w (Out (ExR g) w g A c l ln cl r) := by
    intro N h1 h3 h0 hK hu
    have hne : ¬ ((N : Int) = 0) := by omega
    simp only [Fp.unary, hu, hne, if_false, tail_K (isK_lt hK)] at h
    cases hr : Fp.unary k (ks l (i + 1)) with
    | none => rw [hr] at h; cases h
    | some r1 =>
      rw [hr] at h
      have := unary_op hk hB w i r1 hp hv N h1 h3 h0 hK hr
      have hrr : mapR (Fp.eUn N) r1 = r := by
        cases r1 with
        | ok a rest => exact Option.some.inj h
        | bad rest => exact Option.some.inj h
      rw [hrr] at this
      exact this
  cases h1 : isK (unS 1) (nowT l i ln cl) with
  | true => exact key 1 (by omega) (by omega) (fun m a b => by omega) h1 (by unfold Fp.unOp; rw [e1, h1]; rfl)
  | false =>
    cases h2 : isK (unS 2) (nowT l i ln cl) with
    | true => exact key 2 (by omega) (by omega) (fun m a b => by obtain rfl : m = 1 := by omega
                                                                 exact h1) h2 (by unfold Fp.unOp; rw [e1, h1, e2, h2]; rfl)
    | false =>
      cases h3 : isK (unS 3) (nowT l i ln cl) with
      | true => exact key 3 (by omega) (by omega) (fun m a b => by rcases (by omega : m = 1 ∨ m = 2) with rfl | rfl
                                                                   · exact h1
                                                                   · exact h2) h3 (by unfold Fp.unOp; rw [e1, h1, e2, h2, e3, h3]; rfl)
      | false =>
        have hu : Fp.unOp (ks l i) = 0 := by unfold Fp.unOp; rw [e1, h1, e2, h2, e3, h3]; rfl
        simp only [Fp.unary, hu, if_true] at h
        refine unary_none hk hB w i r hp hv (fun m a b => ?_) h
        rcases (by omega : m = 1 ∨ m = 2 ∨ m = 3) with rfl | rfl | rfl
        · exact h1
        · exact h2
        · exact h3
end Go.Proofs.YtnjnadlgndjnbaaDoor.Pk
end

section
set_option linter.unusedVariables false
set_option linter.unusedSimpArgs false
namespace Go.Proofs.YtnjnadlgndjnbaaDoor.Pk
open Go.RowKit Go.Proofs.YtnjnadlgndjnbaaDoorW.PrintWords Go.Proofs.YtnjnadlgndjnbaaDoorW.PrintLast Go.Proofs.YtnjnadlgndjnbaaDoorW.PrintMore Go.Proofs.YtnjnadlgndjnbaaDoor.Lx
section
variable {B g : Nat} {A : Option Addr} {c : Nat} {l : List Tk} {ln cl : Int} {k : Nat}
theorem Pa.next1 {w : World} {i : Nat} (h : Pa w g A c l i ln cl) (hi : i < l.length) : Pa (w.setCell ⟨g, 1, none⟩ (.int .i64 ((i : Int) + 1))) g A c l (i + 1) ln cl := h.next hi
theorem Spec.expr1 (hk : Spec B g A c l ln cl k) (w : World) (i : Nat) (r : Fp.Res SE) (hp : Pa w g A c l i ln cl) (hv : Pv B w) (h : Fp.expr k 1 (ks l i) = some r) :
    Calls Tryd.prog 18 #[.pointer (some ⟨g, 0, none⟩), .int .i64 1] w (Out (ExR g) w g A c l ln cl r) := hk.expr 1 w i r (by omega) (by omega) hp hv h
theorem K_of {s : ByteArray} {i : Nat} {rest : List Fp.Key} {b : Bool} (hr : rest = ks l i) (h : Fp.isT s.data.toList rest = b) : isK s (nowT l i ln cl) = b := by
  rw [← isT_K (l := l), ← hr]; exact h
set_option maxRecDepth 100000 in
theorem cast_ok (hk : Spec B g A c l ln cl k) (hB : B ≤ g) (w : World) (i : Nat) (x : SE) (rest : List Fp.Key) (hp : Pa w g A c l i ln cl) (hv : Pv B w)
    (hb : (typN (nowT l i ln cl).text != 0 && (nowT l i ln cl).kind == 2) = true) (hK1 : isK ⟨#[40]⟩ (nowT l (i + 1) ln cl) = true) (he : Fp.expr k 1 (ks l (i + 2)) = some (.ok x rest)) (hJ : Fp.isT [41] rest = true) :
    Calls Tryd.prog 55 #[.pointer (some ⟨g, 0, none⟩)] w (Out (ExR g) w g A c l ln cl (.ok (Fp.eCast (typN (nowT l i ln cl).text) x) rest.tail)) := by
  have hi : i < l.length := kind_lt (ln := ln) (cl := cl) (by intro h; rw [h] at hb; simp at hb)
  have hl := hp.len
  have hgl := hp.lt
  have e1 : IntKind.i64.wrap ((i : Int) + 1) = (i : Int) + 1 := IntWalk.i64_in _ (by omega)
  have hB0 := below_alloc (Below.refl w.heap.size w) (.cells zE6 26)
  have hN0 := (NewB.alloc w zE6 26).1
  have hX := isType_any (hp.below hB0) (hv.below hB0)
  rw [hb] at hX
  have HN := Hd.mk hN0
  have HB := Hd.mk hB0
  clear hN0 hB0
  go_enter Tryd.func55, Tryd.ntmps55
  go_wp2_with (first
    | (go_at_call 26; (with_reducible refine hX.mono ?_); rintro e w1 ⟨rfl, hb1⟩; have hp1 := (hp.below HB.out).below hb1; have hc1 := hp1.c1; have hf1 := hp1.fr 1; have hG1 := Hd.mk (grown_of_below (HB.out.trans (hb1.mono HB.out.size)) (some g)); have HN1 := Hd.mk (keep_blk HN.out (grown_of_below hb1 (some g)) (Nat.ne_of_gt hgl)); have hp2 := Hd.mk (hp1.next1 hi); have hG2 := Hd.mk (grown_set hG1.out 1 (.int .i64 ((i : Int) + 1))))
    | (go_at_call 24; (with_reducible refine (must_ok ⟨#[40]⟩ hp2.out hK1 (isK_lt hK1)).mono ?_); rintro e w2 ⟨rfl, hp3, hg2⟩)
    | (go_at_call 18; (with_reducible refine (hk.expr1 w2 _ _ hp3 (hv.grown (grown_trans hG2.out hg2) hB) he).mono ?_); rintro e w3 ⟨hg3, i', v, hr, hp4, rfl, A5, c5, rfl, hR⟩; have hK2 := K_of (s := ⟨#[41]⟩) (ln := ln) (cl := cl) hr hJ; have hbe := Hd.mk (below_alloc (Below.refl w3.heap.size w3) (.cells #[.int .i64 x.f0, .int .i64 x.f1, .int .i64 x.f2, .int .u32 x.f3, .string x.f4, .slice A5 x.f5.length c5] 26)); have hp5 := hp4.below hbe.out; have hE := Hd.mk (NewB.alloc w3 #[.int .i64 x.f0, .int .i64 x.f1, .int .i64 x.f2, .int .u32 x.f3, .string x.f4, .slice A5 x.f5.length c5] 26).1; have HN3 := Hd.mk (keep_blk (keep_blk HN1.out (grown_set (grown_refl _ _) 1 (.int .i64 ((i : Int) + 1))) (Nat.ne_of_gt hgl)) (grown_trans hg2 (grown_trans hg3 (grown_of_below hbe.out (some g)))) (Nat.ne_of_gt hgl)); have hG3 := Hd.mk (grown_trans hG2.out (grown_trans hg2 (grown_trans hg3 (grown_of_below hbe.out (some g))))); have hg3l := hp4.lt)
    | (go_at_call 24; (with_reducible refine (must_ok ⟨#[41]⟩ hp5 hK2 (isK_lt hK2)).mono ?_); rintro e w4 ⟨rfl, hp6, hg4⟩; have hE4 := keep_blk hE.out hg4 (Nat.ne_of_gt hg3l); have hN4 := keep_blk HN3.out hg4 (Nat.ne_of_gt hgl); obtain ⟨y0, y1, y2, y3, y4, y5⟩ := cells6 hE4; obtain ⟨q0, q1, q2, q3, q4, q5⟩ := cells6 hN4; obtain ⟨f0, f1, f2, f3, f4, f5⟩ := froz6 hN4; have hbl := heap_lt' hN4; have hbl2 := heap_lt' hE4)
    | fail)
  have hR4 := Kd.R_grown (Kd.R_alloc hR (.cells #[.int .i64 x.f0, .int .i64 x.f1, .int .i64 x.f2, .int .u32 x.f3, .string x.f4, .slice A5 x.f5.length c5] 26)) hg4 (fun k hk e => hk (Option.some.inj e))
  have hZ := fin_one (.int .i64 7) (.int .i64 0) (.int .i64 (typN (nowT l i ln cl).text)) (.int .u32 0) (.string ⟨#[]⟩) hp (grown_trans hG3.out hg4) hN4 hp6 hR4 (by have h1 := heap_lt' HN1.out; have h2 := hg2.size; rw [size_set] at h2; omega) rfl
  refine bodyPost_ret (results_cell_row rfl _ _ _ 26 _ (0, 0) _ rfl hZ.1 Tryd.underlying26 rfl (by kernel_rfl)) rfl ?_
  exact ⟨hZ.2.1, i' + 1, _, by rw [hr, tail_K (isK_lt hK2)], hZ.2.2.1, rfl, _, 1, rfl, hZ.2.2.2⟩
set_option maxRecDepth 100000 in
theorem cast_bad1 (hk : Spec B g A c l ln cl k) (hB : B ≤ g) (w : World) (i : Nat) (hp : Pa w g A c l i ln cl) (hv : Pv B w)
    (hb : (typN (nowT l i ln cl).text != 0 && (nowT l i ln cl).kind == 2) = true) (rest : List Fp.Key) (hK1 : isK ⟨#[40]⟩ (nowT l (i + 1) ln cl) = false) (hr : rest = ks l (i + 1)) :
    Calls Tryd.prog 55 #[.pointer (some ⟨g, 0, none⟩)] w (Out (ExR g) w g A c l ln cl (.bad rest)) := by
  have hi : i < l.length := kind_lt (ln := ln) (cl := cl) (by intro h; rw [h] at hb; simp at hb)
  have hl := hp.len
  have hgl := hp.lt
  have e1 : IntKind.i64.wrap ((i : Int) + 1) = (i : Int) + 1 := IntWalk.i64_in _ (by omega)
  have hB0 := below_alloc (Below.refl w.heap.size w) (.cells zE6 26)
  have hN0 := (NewB.alloc w zE6 26).1
  have hX := isType_any (hp.below hB0) (hv.below hB0)
  rw [hb] at hX
  have HN := Hd.mk hN0
  have HB := Hd.mk hB0
  clear hN0 hB0
  go_enter Tryd.func55, Tryd.ntmps55
  go_wp2_with (first
    | (go_at_call 26; (with_reducible refine hX.mono ?_); rintro e w1 ⟨rfl, hb1⟩; have hp1 := (hp.below HB.out).below hb1; have hc1 := hp1.c1; have hf1 := hp1.fr 1; have hG1 := Hd.mk (grown_of_below (HB.out.trans (hb1.mono HB.out.size)) (some g)); have HN1 := Hd.mk (keep_blk HN.out (grown_of_below hb1 (some g)) (Nat.ne_of_gt hgl)); have hp2 := Hd.mk (hp1.next1 hi); have hG2 := Hd.mk (grown_set hG1.out 1 (.int .i64 ((i : Int) + 1))))
    | (go_at_call 24; (with_reducible refine (must_bad ⟨#[40]⟩ hp2.out hK1).mono ?_); rintro e w2 ⟨rfl, hg2⟩)
    | fail)
  exact ⟨rfl, grown_trans hG2.out hg2, i + 1, by first | rfl | exact hr, hi, rfl⟩
set_option maxRecDepth 100000 in
theorem cast_bad2 (hk : Spec B g A c l ln cl k) (hB : B ≤ g) (w : World) (i : Nat) (hp : Pa w g A c l i ln cl) (hv : Pv B w)
    (hb : (typN (nowT l i ln cl).text != 0 && (nowT l i ln cl).kind == 2) = true) (rest : List Fp.Key) (hK1 : isK ⟨#[40]⟩ (nowT l (i + 1) ln cl) = true) (he : Fp.expr k 1 (ks l (i + 2)) = some (.bad rest)) :
    Calls Tryd.prog 55 #[.pointer (some ⟨g, 0, none⟩)] w (Out (ExR g) w g A c l ln cl (.bad rest)) := by
  have hi : i < l.length := kind_lt (ln := ln) (cl := cl) (by intro h; rw [h] at hb; simp at hb)
  have hl := hp.len
  have hgl := hp.lt
  have e1 : IntKind.i64.wrap ((i : Int) + 1) = (i : Int) + 1 := IntWalk.i64_in _ (by omega)
  have hB0 := below_alloc (Below.refl w.heap.size w) (.cells zE6 26)
  have hN0 := (NewB.alloc w zE6 26).1
  have hX := isType_any (hp.below hB0) (hv.below hB0)
  rw [hb] at hX
  have HN := Hd.mk hN0
  have HB := Hd.mk hB0
  clear hN0 hB0
  go_enter Tryd.func55, Tryd.ntmps55
  go_wp2_with (first
    | (go_at_call 26; (with_reducible refine hX.mono ?_); rintro e w1 ⟨rfl, hb1⟩; have hp1 := (hp.below HB.out).below hb1; have hc1 := hp1.c1; have hf1 := hp1.fr 1; have hG1 := Hd.mk (grown_of_below (HB.out.trans (hb1.mono HB.out.size)) (some g)); have HN1 := Hd.mk (keep_blk HN.out (grown_of_below hb1 (some g)) (Nat.ne_of_gt hgl)); have hp2 := Hd.mk (hp1.next1 hi); have hG2 := Hd.mk (grown_set hG1.out 1 (.int .i64 ((i : Int) + 1))))
    | (go_at_call 24; (with_reducible refine (must_ok ⟨#[40]⟩ hp2.out hK1 (isK_lt hK1)).mono ?_); rintro e w2 ⟨rfl, hp3, hg2⟩)
    | (go_at_call 18; (with_reducible refine (hk.expr1 w2 _ _ hp3 (hv.grown (grown_trans hG2.out hg2) hB) he).mono ?_); rintro e w3 ⟨hg3, i', hr, hi', rfl⟩)
    | fail)
  exact ⟨rfl, grown_trans hG2.out (grown_trans hg2 hg3), i', by first | rfl | exact hr, hi', rfl⟩
set_option maxRecDepth 100000 in
theorem cast_bad3 (hk : Spec B g A c l ln cl k) (hB : B ≤ g) (w : World) (i : Nat) (hp : Pa w g A c l i ln cl) (hv : Pv B w)
    (hb : (typN (nowT l i ln cl).text != 0 && (nowT l i ln cl).kind == 2) = true) (x : SE) (rest : List Fp.Key) (hK1 : isK ⟨#[40]⟩ (nowT l (i + 1) ln cl) = true) (he : Fp.expr k 1 (ks l (i + 2)) = some (.ok x rest)) (hJ : Fp.isT [41] rest = false) :
    Calls Tryd.prog 55 #[.pointer (some ⟨g, 0, none⟩)] w (Out (ExR g) w g A c l ln cl (.bad rest)) := by
  have hi : i < l.length := kind_lt (ln := ln) (cl := cl) (by intro h; rw [h] at hb; simp at hb)
  have hl := hp.len
  have hgl := hp.lt
  have e1 : IntKind.i64.wrap ((i : Int) + 1) = (i : Int) + 1 := IntWalk.i64_in _ (by omega)
  have hB0 := below_alloc (Below.refl w.heap.size w) (.cells zE6 26)
  have hN0 := (NewB.alloc w zE6 26).1
  have hX := isType_any (hp.below hB0) (hv.below hB0)
  rw [hb] at hX
  have HN := Hd.mk hN0
  have HB := Hd.mk hB0
  clear hN0 hB0
  go_enter Tryd.func55, Tryd.ntmps55
  go_wp2_with (first
    | (go_at_call 26; (with_reducible refine hX.mono ?_); rintro e w1 ⟨rfl, hb1⟩; have hp1 := (hp.below HB.out).below hb1; have hc1 := hp1.c1; have hf1 := hp1.fr 1; have hG1 := Hd.mk (grown_of_below (HB.out.trans (hb1.mono HB.out.size)) (some g)); have HN1 := Hd.mk (keep_blk HN.out (grown_of_below hb1 (some g)) (Nat.ne_of_gt hgl)); have hp2 := Hd.mk (hp1.next1 hi); have hG2 := Hd.mk (grown_set hG1.out 1 (.int .i64 ((i : Int) + 1))))
    | (go_at_call 24; (with_reducible refine (must_ok ⟨#[40]⟩ hp2.out hK1 (isK_lt hK1)).mono ?_); rintro e w2 ⟨rfl, hp3, hg2⟩)
    | (go_at_call 18; (with_reducible refine (hk.expr1 w2 _ _ hp3 (hv.grown (grown_trans hG2.out hg2) hB) he).mono ?_); rintro e w3 ⟨hg3, i', v, hr, hp4, rfl, A5, c5, rfl, hR⟩; have hK2 := K_of (s := ⟨#[41]⟩) (ln := ln) (cl := cl) hr hJ; have hbe := Hd.mk (below_alloc (Below.refl w3.heap.size w3) (.cells #[.int .i64 x.f0, .int .i64 x.f1, .int .i64 x.f2, .int .u32 x.f3, .string x.f4, .slice A5 x.f5.length c5] 26)); have hp5 := hp4.below hbe.out; have hE := Hd.mk (NewB.alloc w3 #[.int .i64 x.f0, .int .i64 x.f1, .int .i64 x.f2, .int .u32 x.f3, .string x.f4, .slice A5 x.f5.length c5] 26).1; have HN3 := Hd.mk (keep_blk (keep_blk HN1.out (grown_set (grown_refl _ _) 1 (.int .i64 ((i : Int) + 1))) (Nat.ne_of_gt hgl)) (grown_trans hg2 (grown_trans hg3 (grown_of_below hbe.out (some g)))) (Nat.ne_of_gt hgl)); have hG3 := Hd.mk (grown_trans hG2.out (grown_trans hg2 (grown_trans hg3 (grown_of_below hbe.out (some g))))); have hg3l := hp4.lt)
    | (go_at_call 24; (with_reducible refine (must_bad ⟨#[41]⟩ hp5 hK2).mono ?_); rintro e w4 ⟨rfl, hg4⟩)
    | fail)
  exact ⟨rfl, grown_trans hG3.out hg4, i', by first | rfl | exact hr, hp4.pos, rfl⟩
theorem cast_step (hk : Spec B g A c l ln cl k) (hB : B ≤ g) (w : World) (i : Nat) (r : Fp.Res SE) (hp : Pa w g A c l i ln cl) (hv : Pv B w)
    (hb : (typN (nowT l i ln cl).text != 0 && (nowT l i ln cl).kind == 2) = true) (h : Fp.primary (k + 1) (ks l i) = some r) :
    Calls Tryd.prog 55 #[.pointer (some ⟨g, 0, none⟩)] w (Out (ExR g) w g A c l ln cl r) := by
  have hi : i < l.length := kind_lt (ln := ln) (cl := cl) (by intro h; rw [h] at hb; simp at hb)
  have hb2 := hb
  simp only [Bool.and_eq_true, bne_iff_ne, ne_eq] at hb2
  have ht : Fp.typeAt (ks l i) = typN (nowT l i ln cl).text := by rw [type_K (ln := ln) (cl := cl), hb2.2]; rfl
  have hne : Fp.typeAt (ks l i) ≠ 0 := by rw [ht]; exact hb2.1
  simp only [Fp.primary, if_pos hne, tail_K hi] at h
  rw [ht] at h
  have e40 : Fp.isT [40] (ks l (i + 1)) = isK ⟨#[40]⟩ (nowT l (i + 1) ln cl) := isT_K ⟨#[40]⟩
  unfold Fp.must at h
  rw [e40] at h
  cases hK1 : isK ⟨#[40]⟩ (nowT l (i + 1) ln cl) with
  | false =>
    rw [hK1] at h
    obtain rfl := (Option.some.inj h).symm
    exact cast_bad1 hk hB w i hp hv hb _ hK1 rfl
  | true =>
    rw [hK1, if_pos rfl, tail_K (isK_lt hK1)] at h
    change Fp.andThen (Fp.expr k 1 (ks l (i + 2))) _ = _ at h
    cases he : Fp.expr k 1 (ks l (i + 2)) with
    | none => rw [he] at h; cases h
    | some r1 =>
      rw [he] at h
      cases r1 with
      | bad rest =>
        obtain rfl := (Option.some.inj h).symm
        exact cast_bad2 hk hB w i hp hv hb _ hK1 he
      | ok x rest =>
        simp only [Fp.andThen] at h
        cases hJ : Fp.isT [41] rest with
        | false =>
          rw [hJ] at h
          obtain rfl := (Option.some.inj h).symm
          exact cast_bad3 hk hB w i hp hv hb _ _ hK1 he hJ
        | true =>
          rw [hJ] at h
          obtain rfl := (Option.some.inj h).symm
          exact cast_ok hk hB w i _ _ hp hv hb hK1 he hJ
end
end Go.Proofs.YtnjnadlgndjnbaaDoor.Pk
end
