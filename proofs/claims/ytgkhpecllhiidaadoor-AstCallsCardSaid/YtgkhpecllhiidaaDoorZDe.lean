/- The reference of chapter 6: may a statement be. -/
import Derived.Test.YtgkhpecllhiidaaDoorZPw
import Derived.Test.YtgkhpecllhiidaaDoorZDd
import Derived.Test.YtgkhpecllhiidaaDoorZDe0
set_option linter.unusedVariables false
set_option linter.unusedSimpArgs false
namespace Go.Proofs.YtgkhpecllhiidaaDoor.A
open Go.RowKit Go.Shelf Go.Proofs.YtgkhpecllhiidaaDoor.As Go.Proofs.YtgkhpecllhiidaaDoorW.PrintWords Go.Proofs.YtgkhpecllhiidaaDoorW.PrintLast Go.Proofs.YtgkhpecllhiidaaDoorW.PrintMore
def FB (W : World) (b : Nat) (h0 h1 h2 h3 h4 h5 h6 h7 : Bool) : Prop := W.heap[b]? = some (.cells #[.bool h0, .bool h1, .bool h2, .bool h3, .bool h4, .bool h5, .bool h6, .bool h7] 144 (0, 0))
theorem FB.cells {W : World} {b : Nat} {h0 h1 h2 h3 h4 h5 h6 h7 : Bool} (h : FB W b h0 h1 h2 h3 h4 h5 h6 h7) : W.cell? ⟨b, 0, none⟩ = some (.bool h0) ∧ W.cell? ⟨b, 1, none⟩ = some (.bool h1) ∧ W.cell? ⟨b, 2, none⟩ = some (.bool h2) ∧ W.cell? ⟨b, 3, none⟩ = some (.bool h3) ∧ W.cell? ⟨b, 4, none⟩ = some (.bool h4) ∧ W.cell? ⟨b, 5, none⟩ = some (.bool h5) ∧ W.cell? ⟨b, 6, none⟩ = some (.bool h6) ∧ W.cell? ⟨b, 7, none⟩ = some (.bool h7) ∧ W.frozen? ⟨b, 0, none⟩ = false ∧ W.frozen? ⟨b, 1, none⟩ = false ∧ W.frozen? ⟨b, 2, none⟩ = false ∧ W.frozen? ⟨b, 3, none⟩ = false ∧ W.frozen? ⟨b, 4, none⟩ = false ∧ W.frozen? ⟨b, 5, none⟩ = false ∧ W.frozen? ⟨b, 6, none⟩ = false ∧ W.frozen? ⟨b, 7, none⟩ = false :=
  ⟨(blk_cell h 0).trans rfl, (blk_cell h 1).trans rfl, (blk_cell h 2).trans rfl, (blk_cell h 3).trans rfl, (blk_cell h 4).trans rfl, (blk_cell h 5).trans rfl, (blk_cell h 6).trans rfl, (blk_cell h 7).trans rfl, blk_frozen h 0, blk_frozen h 1, blk_frozen h 2, blk_frozen h 3, blk_frozen h 4, blk_frozen h 5, blk_frozen h 6, blk_frozen h 7⟩
theorem FB.put {W : World} {b : Nat} {h0 h1 h2 h3 h4 h5 h6 h7 : Bool} (h : FB W b h0 h1 h2 h3 h4 h5 h6 h7) (g0 g1 g2 g3 g4 g5 g6 g7 : Bool) : FB ((((((((W.setCell ⟨b, 0, none⟩ (.bool g0)).setCell ⟨b, 1, none⟩ (.bool g1)).setCell ⟨b, 2, none⟩ (.bool g2)).setCell ⟨b, 3, none⟩ (.bool g3)).setCell ⟨b, 4, none⟩ (.bool g4)).setCell ⟨b, 5, none⟩ (.bool g5)).setCell ⟨b, 6, none⟩ (.bool g6)).setCell ⟨b, 7, none⟩ (.bool g7)) b g0 g1 g2 g3 g4 g5 g6 g7 := by
  exact (blk_put (cs' := #[.bool g0, .bool g1, .bool g2, .bool g3, .bool g4, .bool g5, .bool g6, .bool g7]) (blk_put (cs' := #[.bool g0, .bool g1, .bool g2, .bool g3, .bool g4, .bool g5, .bool g6, .bool h7]) (blk_put (cs' := #[.bool g0, .bool g1, .bool g2, .bool g3, .bool g4, .bool g5, .bool h6, .bool h7]) (blk_put (cs' := #[.bool g0, .bool g1, .bool g2, .bool g3, .bool g4, .bool h5, .bool h6, .bool h7]) (blk_put (cs' := #[.bool g0, .bool g1, .bool g2, .bool g3, .bool h4, .bool h5, .bool h6, .bool h7]) (blk_put (cs' := #[.bool g0, .bool g1, .bool g2, .bool h3, .bool h4, .bool h5, .bool h6, .bool h7]) (blk_put (cs' := #[.bool g0, .bool g1, .bool h2, .bool h3, .bool h4, .bool h5, .bool h6, .bool h7]) (blk_put (cs' := #[.bool g0, .bool h1, .bool h2, .bool h3, .bool h4, .bool h5, .bool h6, .bool h7]) h 0 (.bool g0) rfl) 1 (.bool g1) rfl) 2 (.bool g2) rfl) 3 (.bool g3) rfl) 4 (.bool g4) rfl) 5 (.bool g5) rfl) 6 (.bool g6) rfl) 7 (.bool g7) rfl)
theorem below8 {W V : World} {B b : Nat} (h : Below B V W) (hb : B ≤ b) (g0 g1 g2 g3 g4 g5 g6 g7 : Bool) : Below B V ((((((((W.setCell ⟨b, 0, none⟩ (.bool g0)).setCell ⟨b, 1, none⟩ (.bool g1)).setCell ⟨b, 2, none⟩ (.bool g2)).setCell ⟨b, 3, none⟩ (.bool g3)).setCell ⟨b, 4, none⟩ (.bool g4)).setCell ⟨b, 5, none⟩ (.bool g5)).setCell ⟨b, 6, none⟩ (.bool g6)).setCell ⟨b, 7, none⟩ (.bool g7)) :=
  ((((((((h.setCell (p := ⟨b, 0, none⟩) hb _).setCell (p := ⟨b, 1, none⟩) hb _).setCell (p := ⟨b, 2, none⟩) hb _).setCell (p := ⟨b, 3, none⟩) hb _).setCell (p := ⟨b, 4, none⟩) hb _).setCell (p := ⟨b, 5, none⟩) hb _).setCell (p := ⟨b, 6, none⟩) hb _).setCell (p := ⟨b, 7, none⟩) hb _)
def KindsSay (s : SS) (w : World) (r : Ending) (w' : World) : Prop := ∃ h0 h1 h2 h3 h4 h5 h6 h7 is : Bool, r = .returned (.tuple #[.agg #[.bool h0, .bool h1, .bool h2, .bool h3, .bool h4, .bool h5, .bool h6, .bool h7], .bool is]) ∧ Lx.Hd (K8 s h0 h1 h2 h3 h4 h5 h6 h7 is) ∧ Below w.heap.size w w'
set_option maxRecDepth 100000 in
set_option maxHeartbeats 8000000 in
theorem refKinds (s : SS) (A5 A6 A7 A8 A9 : Option Addr) (c5 c6 c7 c8 c9 : Nat) (w : World) (hR : RowsS w s A5 A6 A7 A8 A9 c5 c6 c7 c8 c9) :
    Calls Tryd.prog 116 #[.agg #[.int .i64 s.f0, .int .i64 s.f1, .int .i64 s.f2, .int .i64 s.f3, .string s.f4, .slice A5 s.f5.length c5, .slice A6 s.f6.length c6, .slice A7 s.f7.length c7, .slice A8 s.f8.length c8, .slice A9 s.f9.length c9]] w (KindsSay s w) := by
  have HR := Lx.Hd.mk hR
  clear hR
  go_enter Tryd.func116, Tryd.ntmps116
  go_upto_region 1 with (fail)
  refine name_world fun W2 hW2 => ?_
  have HB0 : Lx.Hd (Below w.heap.size w W2) := Lx.Hd.mk (by rw [hW2]; exact below_alloc (below_alloc (Below.refl _ _) _) _)
  have z1 : (w.alloc (.cells #[.int .i64 s.f0, .int .i64 s.f1, .int .i64 s.f2, .int .i64 s.f3, .string s.f4, .slice A5 s.f5.length c5, .slice A6 s.f6.length c6, .slice A7 s.f7.length c7, .slice A8 s.f8.length c8, .slice A9 s.f9.length c9] 38)).heap.size = w.heap.size + 1 := by simp
  have hb1 : W2.heap[w.heap.size]? = some (.cells #[.int .i64 s.f0, .int .i64 s.f1, .int .i64 s.f2, .int .i64 s.f3, .string s.f4, .slice A5 s.f5.length c5, .slice A6 s.f6.length c6, .slice A7 s.f7.length c7, .slice A8 s.f8.length c8, .slice A9 s.f9.length c9] 38 (0, 0)) := by rw [hW2]; exact blk_alloc (World.alloc_heap_new w _) _
  have hb2 : FB W2 (w.heap.size + 1) false false false false false false false false := by rw [hW2, ← z1]; exact World.alloc_heap_new _ _
  clear hW2 z1
  obtain ⟨bw, hbw⟩ : ∃ b, b = w.heap.size + 1 := ⟨_, rfl⟩
  rw [← hbw] at hb2 ⊢
  have HBw1 : Lx.Hd (w.heap.size + 1 ≤ bw) := Lx.Hd.mk (by omega)
  clear hbw
  obtain ⟨bx, hbx⟩ : ∃ b, b = w.heap.size := ⟨_, rfl⟩
  rw [← hbx] at hb1 HBw1 ⊢
  have HX := Lx.Hd.mk hbx
  clear hbx
  have BC : Lx.Hd (∀ W', Below (bx + 1) W2 W' → BkS W' bx s A5 A6 A7 A8 A9 c5 c6 c7 c8 c9) := Lx.Hd.mk fun W' hb => by
    have hb1' := (hb.block _ (Nat.lt_succ_self _)).trans hb1
    exact bkS_of hb1' W' (Below.refl _ _)
  have HB : Lx.Hd (Below (bx + 1) W2 W2) := Lx.Hd.mk (Below.refl _ _)
  have Hb := Lx.Hd.mk hb2
  have HBs : Lx.Hd (bx + 1 ≤ W2.heap.size) := Lx.Hd.mk (by have : bw < W2.heap.size := (Array.getElem?_eq_some_iff.1 hb2).1; have := HBw1.out; omega)
  have HBl : Lx.Hd (bw < W2.heap.size) := Lx.Hd.mk (Array.getElem?_eq_some_iff.1 hb2).1
  have HW : Lx.Hd (∀ W', Below (bx + 1) W2 W' → Below w.heap.size w W') := Lx.Hd.mk fun W' hb => HB0.out.trans (by rw [← HX.out]; exact ⟨hb.os, hb.tape, hb.output, hb.size, fun j hj => hb.block j (Nat.lt_succ_of_lt hj)⟩)
  have HL7 : Lx.Hd ((s.f7.length : Int) == 1 → ∃ ad, A7 = some ad ∧ w.cell? ad = some (.int .i64 (firstKind s))) := Lx.Hd.mk fun h1 => by
    have h1' : s.f7.length = 1 := by have := eq_of_beq h1; omega
    obtain ⟨ad, rfl, _⟩ := HR.out.2.2.1.2.2 (by omega)
    have hpt := PtAt.of_C HR.out.2.2.1 0 (by omega)
    obtain ⟨A, c, hE, _⟩ := EC_of hpt
    refine ⟨ad, rfl, ?_⟩
    have e0 := hE.c0
    rw [show ad.add (0 * kE.sz) = ad by rw [Nat.zero_mul]; rfl] at e0
    rw [show firstKind s = (s.f7[0]'(by omega)).f0 by unfold firstKind; rw [List.getD_eq_getElem?_getD, List.getElem?_eq_getElem (by omega)]; rfl]
    exact e0
  clear hb1 hb2
  obtain ⟨p0, p1, p2, p3, p4, p5, p6, p7, p8, p9⟩ := BC.out _ HB.out
  obtain ⟨f0, f1, f2, f3, f4, f5, f6, f7, g0, g1, g2, g3, g4, g5, g6, g7⟩ := Hb.out.cells
  by_cases h1 : s.f0 = 1
  · clear f0 f1 f2 f3 f4 f5 f6 f7 g0 g1 g2 g3 g4 g5 g6 g7
    go_wp2_with (first | (go_at_call 83; (with_reducible refine (refTy s.f2 _).mono ?_); rintro r W3 ⟨rfl, hb⟩; have hq_ : Lx.Hd (FB W3 bw false false false false false false false false) := Lx.Hd.mk ((hb.block _ HBl.out).trans Hb.out); have hn_ : Lx.Hd (Below (bx + 1) W2 W3) := Lx.Hd.mk (HB.out.trans (hb.mono HBs.out)); clear hb HB Hb; have HB := hn_; have Hb := hq_; clear hn_ hq_; obtain ⟨f0, f1, f2, f3, f4, f5, f6, f7, g0, g1, g2, g3, g4, g5, g6, g7⟩ := Hb.out.cells) | fail)
    clear f0 f1 f2 f3 f4 f5 f6 f7 g0 g1 g2 g3 g4 g5 g6 g7
    have hn_ : Lx.Hd (Below (bx + 1) W2 ((((((((W3.setCell ⟨bw, 0, none⟩ (.bool true)).setCell ⟨bw, 1, none⟩ (.bool false)).setCell ⟨bw, 2, none⟩ (.bool true)).setCell ⟨bw, 3, none⟩ (.bool false)).setCell ⟨bw, 4, none⟩ (.bool false)).setCell ⟨bw, 5, none⟩ (.bool true)).setCell ⟨bw, 6, none⟩ (.bool false)).setCell ⟨bw, 7, none⟩ (.bool false))) := Lx.Hd.mk (below8 HB.out HBw1.out true false true false false true false false)
    have hq_ : Lx.Hd (FB ((((((((W3.setCell ⟨bw, 0, none⟩ (.bool true)).setCell ⟨bw, 1, none⟩ (.bool false)).setCell ⟨bw, 2, none⟩ (.bool true)).setCell ⟨bw, 3, none⟩ (.bool false)).setCell ⟨bw, 4, none⟩ (.bool false)).setCell ⟨bw, 5, none⟩ (.bool true)).setCell ⟨bw, 6, none⟩ (.bool false)).setCell ⟨bw, 7, none⟩ (.bool false)) bw true false true false false true false false) := Lx.Hd.mk (FB.put Hb.out true false true false false true false false)
    clear HB Hb
    have HB := hn_
    have Hb := hq_
    clear hn_ hq_
    refine bodyPost_ret (results_ct rfl _ _ bw 144 #[.bool true, .bool false, .bool true, .bool false, .bool false, .bool true, .bool false, .bool false] (0, 0) _ rfl Hb.out Tryd.underlying144 rfl (by kernel_rfl)) rfl ⟨true, false, true, false, false, true, false, false, decide (0 < widthI s.f2), rfl, Lx.Hd.mk (.k1 h1), HW.out _ HB.out⟩
  by_cases h2 : s.f0 = 2
  · go_wp2
    clear f0 f1 f2 f3 f4 f5 f6 f7 g0 g1 g2 g3 g4 g5 g6 g7
    have hn_ : Lx.Hd (Below (bx + 1) W2 ((((((((W2.setCell ⟨bw, 0, none⟩ (.bool false)).setCell ⟨bw, 1, none⟩ (.bool false)).setCell ⟨bw, 2, none⟩ (.bool true)).setCell ⟨bw, 3, none⟩ (.bool false)).setCell ⟨bw, 4, none⟩ (.bool true)).setCell ⟨bw, 5, none⟩ (.bool true)).setCell ⟨bw, 6, none⟩ (.bool false)).setCell ⟨bw, 7, none⟩ (.bool false))) := Lx.Hd.mk (below8 HB.out HBw1.out false false true false true true false false)
    have hq_ : Lx.Hd (FB ((((((((W2.setCell ⟨bw, 0, none⟩ (.bool false)).setCell ⟨bw, 1, none⟩ (.bool false)).setCell ⟨bw, 2, none⟩ (.bool true)).setCell ⟨bw, 3, none⟩ (.bool false)).setCell ⟨bw, 4, none⟩ (.bool true)).setCell ⟨bw, 5, none⟩ (.bool true)).setCell ⟨bw, 6, none⟩ (.bool false)).setCell ⟨bw, 7, none⟩ (.bool false)) bw false false true false true true false false) := Lx.Hd.mk (FB.put Hb.out false false true false true true false false)
    clear HB Hb
    have HB := hn_
    have Hb := hq_
    clear hn_ hq_
    refine bodyPost_ret (results_ct rfl _ _ bw 144 #[.bool false, .bool false, .bool true, .bool false, .bool true, .bool true, .bool false, .bool false] (0, 0) _ rfl Hb.out Tryd.underlying144 rfl (by kernel_rfl)) rfl ⟨false, false, true, false, true, true, false, false, true, rfl, Lx.Hd.mk (.k2 h2), HW.out _ HB.out⟩
  by_cases h3 : s.f0 = 3
  · cases hq : (s.f7.length : Int) == 1
    · skip
      go_upto_region 7 with (fail)
      clear f0 f1 f2 f3 f4 f5 f6 f7 g0 g1 g2 g3 g4 g5 g6 g7 p0 p1 p2 p3 p4 p5 p6 p7 p8 p9
      have HBd := Lx.Hd.mk (below_drew HB.out)
      have Hbd : Lx.Hd (FB W2.drew bw false false false false false false false false) := Lx.Hd.mk Hb.out
      refine start_ (n := 15) (S := fun w' => BkS w' bx s A5 A6 A7 A8 A9 c5 c6 c7 c8 c9) (ds := []) (fl 15 0) (by kernel_rfl) rfl rfl (BC.out _ HBd.out) (fun hHeld => ?_)
      clear HB Hb
      have HB := HBd
      have Hb := Hbd
      clear HBd Hbd
      obtain ⟨Wd, hWd⟩ : ∃ V, V = W2.drew := ⟨_, rfl⟩
      rw [← hWd] at HB Hb hHeld ⊢
      clear hWd
      refine pu 0 (some 17) (fl 15 1) ?_
      refine pu 1 (some 18) (fl 15 3) ?_
      refine tk 2 (some 19) (fl 15 7) hHeld (hr := by rintro w' ⟨s0, s1, s2, s3, s4, s5, s6, s7, s8, s9⟩; go_simp; with_reducible rfl) (h := ?_)
      refine pu 3 (some 20) (fl 15 15) ?_
      refine pu 4 (some 21) (fl 15 31) ?_
      refine pu 5 (some 22) (fl 15 63) ?_
      refine po 6 (some 23) (fl 15 127) ?_
      refine po 7 (some 24) (fl 15 255) ?_
      refine po 8 (some 25) (fl 15 511) ?_
      refine po 9 (some 26) (fl 15 1023) ?_
      refine po 10 (some 27) (fl 15 2047) ?_
      refine po 11 (some 28) (fl 15 4095) ?_
      refine pu 12 (some 29) (fl 15 8191) ?_
      refine one_ (i := 13) (N := none) (fl 15 16383) rfl rfl (by kernel_rfl) (by decide) (fun K hK => ?_)
      obtain ⟨f0, f1, f2, f3, f4, f5, f6, f7, g0, g1, g2, g3, g4, g5, g6, g7⟩ := Hb.out.cells
      refine skip_ (w1 := ?_) (by rfl) rfl ?_ ?_
      rotate_left
      · go_simp
        rfl
      clear f0 f1 f2 f3 f4 f5 f6 f7 g0 g1 g2 g3 g4 g5 g6 g7
      have hn_ : Lx.Hd (Below (bx + 1) W2 ((((((((Wd.setCell ⟨bw, 0, none⟩ (.bool false)).setCell ⟨bw, 1, none⟩ (.bool false)).setCell ⟨bw, 2, none⟩ (.bool false)).setCell ⟨bw, 3, none⟩ (.bool false)).setCell ⟨bw, 4, none⟩ (.bool false)).setCell ⟨bw, 5, none⟩ (.bool true)).setCell ⟨bw, 6, none⟩ (.bool false)).setCell ⟨bw, 7, none⟩ (.bool false))) := Lx.Hd.mk (below8 HB.out HBw1.out false false false false false true false false)
      have hq_ : Lx.Hd (FB ((((((((Wd.setCell ⟨bw, 0, none⟩ (.bool false)).setCell ⟨bw, 1, none⟩ (.bool false)).setCell ⟨bw, 2, none⟩ (.bool false)).setCell ⟨bw, 3, none⟩ (.bool false)).setCell ⟨bw, 4, none⟩ (.bool false)).setCell ⟨bw, 5, none⟩ (.bool true)).setCell ⟨bw, 6, none⟩ (.bool false)).setCell ⟨bw, 7, none⟩ (.bool false)) bw false false false false false true false false) := Lx.Hd.mk (FB.put Hb.out false false false false false true false false)
      clear HB Hb
      have HB := hn_
      have Hb := hq_
      clear hn_ hq_
      refine hK.out _ _ (BC.out _ HB.out) (fun hHeld => ?_)
      clear hK K
      refine pu 14 (some 3) (fl 15 32767) ?_
      refine done_ (by kernel_rfl) ?_
      go_wp2
      refine bodyPost_ret (results_ct rfl _ _ bw 144 #[.bool false, .bool false, .bool false, .bool false, .bool false, .bool true, .bool false, .bool false] (0, 0) _ rfl Hb.out Tryd.underlying144 rfl (by kernel_rfl)) rfl ⟨false, false, false, false, false, true, false, false, false, rfl, Lx.Hd.mk (by have h_ := K8.k3 h3; rw [hq] at h_; exact h_), HW.out _ HB.out⟩
    · obtain ⟨ad, hA7, had⟩ := HL7.out hq
      have h71 : s.f7.length = 1 := by have := eq_of_beq hq; omega
      have B7 : Lx.Hd (∀ W', Below (bx + 1) W2 W' → W'.cell? ⟨bx, 7, none⟩ = some (.slice (some ad) 1 c7) ∧ W'.cell? ad = some (.int .i64 (firstKind s))) := Lx.Hd.mk fun W' hb => ⟨by have := (BC.out _ hb).2.2.2.2.2.2.2.1; rwa [hA7, h71] at this, pw_cell_below (HW.out _ hb) had⟩
      have HQ := Lx.Hd.mk hq
      clear hq hA7 had h71
      go_upto_region 7 with (fail)
      clear f0 f1 f2 f3 f4 f5 f6 f7 g0 g1 g2 g3 g4 g5 g6 g7 p0 p1 p2 p3 p4 p5 p6 p7 p8 p9
      have HBd := Lx.Hd.mk (below_drew HB.out)
      have Hbd : Lx.Hd (FB W2.drew bw false false false false false false false false) := Lx.Hd.mk Hb.out
      refine start_ (n := 15) (S := fun w' => w'.cell? ⟨bx, 7, none⟩ = some (.slice (some ad) 1 c7) ∧ w'.cell? ad = some (.int .i64 (firstKind s))) (ds := []) (fl 15 0) (by kernel_rfl) rfl rfl ⟨(B7.out _ HBd.out).1, (B7.out _ HBd.out).2⟩ (fun hHeld => ?_)
      clear HB Hb
      have HB := HBd
      have Hb := Hbd
      clear HBd Hbd
      obtain ⟨Wd, hWd⟩ : ∃ V, V = W2.drew := ⟨_, rfl⟩
      rw [← hWd] at HB Hb hHeld ⊢
      clear hWd
      refine pu 0 (some 17) (fl 15 1) ?_
      refine pu 1 (some 18) (fl 15 3) ?_
      refine tk 2 (some 19) (fl 15 7) hHeld (hr := by rintro w' ⟨s0, s1⟩; go_simp; with_reducible rfl) (h := ?_)
      refine pu 3 (some 20) (fl 15 15) ?_
      refine pu 4 (some 21) (fl 15 31) ?_
      refine pu 5 (some 22) (fl 15 63) ?_
      refine pu 6 (some 23) (fl 15 127) ?_
      refine tk 7 (some 24) (fl 15 255) hHeld (hr := by rintro w' ⟨s0, s1⟩; go_simp; with_reducible rfl) (h := ?_)
      refine pu 8 (some 25) (fl 15 511) ?_
      refine pu 9 (some 26) (fl 15 1023) ?_
      refine tk 10 (some 27) (fl 15 2047) hHeld (hr := by rintro w' ⟨s0, s1⟩; go_simp; with_reducible rfl) (h := ?_)
      refine pu 11 (some 28) (fl 15 4095) ?_
      refine pu 12 (some 29) (fl 15 8191) ?_
      refine one_ (i := 13) (N := none) (fl 15 16383) rfl rfl (by kernel_rfl) (by decide) (fun K hK => ?_)
      obtain ⟨f0, f1, f2, f3, f4, f5, f6, f7, g0, g1, g2, g3, g4, g5, g6, g7⟩ := Hb.out.cells
      refine skip_ (w1 := ?_) (by rfl) rfl ?_ ?_
      rotate_left
      · go_simp
        rfl
      clear f0 f1 f2 f3 f4 f5 f6 f7 g0 g1 g2 g3 g4 g5 g6 g7
      have hn_ : Lx.Hd (Below (bx + 1) W2 ((((((((Wd.setCell ⟨bw, 0, none⟩ (.bool false)).setCell ⟨bw, 1, none⟩ (.bool false)).setCell ⟨bw, 2, none⟩ (.bool false)).setCell ⟨bw, 3, none⟩ (.bool false)).setCell ⟨bw, 4, none⟩ (.bool false)).setCell ⟨bw, 5, none⟩ (.bool true)).setCell ⟨bw, 6, none⟩ (.bool false)).setCell ⟨bw, 7, none⟩ (.bool false))) := Lx.Hd.mk (below8 HB.out HBw1.out false false false false false true false false)
      have hq_ : Lx.Hd (FB ((((((((Wd.setCell ⟨bw, 0, none⟩ (.bool false)).setCell ⟨bw, 1, none⟩ (.bool false)).setCell ⟨bw, 2, none⟩ (.bool false)).setCell ⟨bw, 3, none⟩ (.bool false)).setCell ⟨bw, 4, none⟩ (.bool false)).setCell ⟨bw, 5, none⟩ (.bool true)).setCell ⟨bw, 6, none⟩ (.bool false)).setCell ⟨bw, 7, none⟩ (.bool false)) bw false false false false false true false false) := Lx.Hd.mk (FB.put Hb.out false false false false false true false false)
      clear HB Hb
      have HB := hn_
      have Hb := hq_
      clear hn_ hq_
      refine hK.out _ _ ⟨(B7.out _ HB.out).1, (B7.out _ HB.out).2⟩ (fun hHeld => ?_)
      clear hK K
      refine pu 14 (some 3) (fl 15 32767) ?_
      refine done_ (by kernel_rfl) ?_
      go_wp2
      refine bodyPost_ret (results_ct rfl _ _ bw 144 #[.bool false, .bool false, .bool false, .bool false, .bool false, .bool true, .bool false, .bool false] (0, 0) _ rfl Hb.out Tryd.underlying144 rfl (by kernel_rfl)) rfl ⟨false, false, false, false, false, true, false, false, firstKind s == 4, rfl, Lx.Hd.mk (by have h_ := K8.k3 h3; rw [HQ.out] at h_; exact h_), HW.out _ HB.out⟩
  by_cases h4 : s.f0 = 4
  · go_wp2
    clear f0 f1 f2 f3 f4 f5 f6 f7 g0 g1 g2 g3 g4 g5 g6 g7
    have hn_ : Lx.Hd (Below (bx + 1) W2 ((((((((W2.setCell ⟨bw, 0, none⟩ (.bool false)).setCell ⟨bw, 1, none⟩ (.bool false)).setCell ⟨bw, 2, none⟩ (.bool false)).setCell ⟨bw, 3, none⟩ (.bool false)).setCell ⟨bw, 4, none⟩ (.bool false)).setCell ⟨bw, 5, none⟩ (.bool true)).setCell ⟨bw, 6, none⟩ (.bool true)).setCell ⟨bw, 7, none⟩ (.bool true))) := Lx.Hd.mk (below8 HB.out HBw1.out false false false false false true true true)
    have hq_ : Lx.Hd (FB ((((((((W2.setCell ⟨bw, 0, none⟩ (.bool false)).setCell ⟨bw, 1, none⟩ (.bool false)).setCell ⟨bw, 2, none⟩ (.bool false)).setCell ⟨bw, 3, none⟩ (.bool false)).setCell ⟨bw, 4, none⟩ (.bool false)).setCell ⟨bw, 5, none⟩ (.bool true)).setCell ⟨bw, 6, none⟩ (.bool true)).setCell ⟨bw, 7, none⟩ (.bool true)) bw false false false false false true true true) := Lx.Hd.mk (FB.put Hb.out false false false false false true true true)
    clear HB Hb
    have HB := hn_
    have Hb := hq_
    clear hn_ hq_
    refine bodyPost_ret (results_ct rfl _ _ bw 144 #[.bool false, .bool false, .bool false, .bool false, .bool false, .bool true, .bool true, .bool true] (0, 0) _ rfl Hb.out Tryd.underlying144 rfl (by kernel_rfl)) rfl ⟨false, false, false, false, false, true, true, true, true, rfl, Lx.Hd.mk (.k4 h4), HW.out _ HB.out⟩
  by_cases h5 : s.f0 = 5
  · go_wp2
    clear f0 f1 f2 f3 f4 f5 f6 f7 g0 g1 g2 g3 g4 g5 g6 g7
    have hn_ : Lx.Hd (Below (bx + 1) W2 ((((((((W2.setCell ⟨bw, 0, none⟩ (.bool false)).setCell ⟨bw, 1, none⟩ (.bool false)).setCell ⟨bw, 2, none⟩ (.bool false)).setCell ⟨bw, 3, none⟩ (.bool false)).setCell ⟨bw, 4, none⟩ (.bool false)).setCell ⟨bw, 5, none⟩ (.bool true)).setCell ⟨bw, 6, none⟩ (.bool true)).setCell ⟨bw, 7, none⟩ (.bool false))) := Lx.Hd.mk (below8 HB.out HBw1.out false false false false false true true false)
    have hq_ : Lx.Hd (FB ((((((((W2.setCell ⟨bw, 0, none⟩ (.bool false)).setCell ⟨bw, 1, none⟩ (.bool false)).setCell ⟨bw, 2, none⟩ (.bool false)).setCell ⟨bw, 3, none⟩ (.bool false)).setCell ⟨bw, 4, none⟩ (.bool false)).setCell ⟨bw, 5, none⟩ (.bool true)).setCell ⟨bw, 6, none⟩ (.bool true)).setCell ⟨bw, 7, none⟩ (.bool false)) bw false false false false false true true false) := Lx.Hd.mk (FB.put Hb.out false false false false false true true false)
    clear HB Hb
    have HB := hn_
    have Hb := hq_
    clear hn_ hq_
    refine bodyPost_ret (results_ct rfl _ _ bw 144 #[.bool false, .bool false, .bool false, .bool false, .bool false, .bool true, .bool true, .bool false] (0, 0) _ rfl Hb.out Tryd.underlying144 rfl (by kernel_rfl)) rfl ⟨false, false, false, false, false, true, true, false, true, rfl, Lx.Hd.mk (.k5 h5), HW.out _ HB.out⟩
  by_cases h6 : s.f0 = 6
  · go_wp2
    clear f0 f1 f2 f3 f4 f5 f6 f7 g0 g1 g2 g3 g4 g5 g6 g7
    have hn_ : Lx.Hd (Below (bx + 1) W2 ((((((((W2.setCell ⟨bw, 0, none⟩ (.bool false)).setCell ⟨bw, 1, none⟩ (.bool false)).setCell ⟨bw, 2, none⟩ (.bool false)).setCell ⟨bw, 3, none⟩ (.bool false)).setCell ⟨bw, 4, none⟩ (.bool false)).setCell ⟨bw, 5, none⟩ (.bool true)).setCell ⟨bw, 6, none⟩ (.bool false)).setCell ⟨bw, 7, none⟩ (.bool false))) := Lx.Hd.mk (below8 HB.out HBw1.out false false false false false true false false)
    have hq_ : Lx.Hd (FB ((((((((W2.setCell ⟨bw, 0, none⟩ (.bool false)).setCell ⟨bw, 1, none⟩ (.bool false)).setCell ⟨bw, 2, none⟩ (.bool false)).setCell ⟨bw, 3, none⟩ (.bool false)).setCell ⟨bw, 4, none⟩ (.bool false)).setCell ⟨bw, 5, none⟩ (.bool true)).setCell ⟨bw, 6, none⟩ (.bool false)).setCell ⟨bw, 7, none⟩ (.bool false)) bw false false false false false true false false) := Lx.Hd.mk (FB.put Hb.out false false false false false true false false)
    clear HB Hb
    have HB := hn_
    have Hb := hq_
    clear hn_ hq_
    refine bodyPost_ret (results_ct rfl _ _ bw 144 #[.bool false, .bool false, .bool false, .bool false, .bool false, .bool true, .bool false, .bool false] (0, 0) _ rfl Hb.out Tryd.underlying144 rfl (by kernel_rfl)) rfl ⟨false, false, false, false, false, true, false, false, true, rfl, Lx.Hd.mk (.k6 h6), HW.out _ HB.out⟩
  by_cases h7 : s.f0 = 7
  · cases hq : decide (s.f3 ≥ 0)
    · have HQ := Lx.Hd.mk hq
      go_upto_region 16 with (fail)
      clear f0 f1 f2 f3 f4 f5 f6 f7 g0 g1 g2 g3 g4 g5 g6 g7 p0 p1 p2 p3 p4 p5 p6 p7 p8 p9
      have HBd := Lx.Hd.mk (below_drew HB.out)
      have Hbd : Lx.Hd (FB W2.drew bw false false false false false false false false) := Lx.Hd.mk Hb.out
      refine start_ (n := 11) (S := fun w' => BkS w' bx s A5 A6 A7 A8 A9 c5 c6 c7 c8 c9) (ds := []) (fl 11 0) (by kernel_rfl) rfl rfl (BC.out _ HBd.out) (fun hHeld => ?_)
      clear HB Hb
      have HB := HBd
      have Hb := Hbd
      clear HBd Hbd
      obtain ⟨Wd, hWd⟩ : ∃ V, V = W2.drew := ⟨_, rfl⟩
      rw [← hWd] at HB Hb hHeld ⊢
      clear hWd
      refine pu 0 (some 42) (fl 11 1) ?_
      refine pu 1 (some 43) (fl 11 3) ?_
      refine tk 2 (some 44) (fl 11 7) hHeld (hr := by rintro w' ⟨s0, s1, s2, s3, s4, s5, s6, s7, s8, s9⟩; go_simp; with_reducible rfl) (h := ?_)
      refine pu 3 (some 45) (fl 11 15) ?_
      refine pu 4 (some 46) (fl 11 31) ?_
      refine po 5 (some 47) (fl 11 63) ?_
      refine po 6 (some 48) (fl 11 127) ?_
      refine po 7 (some 49) (fl 11 255) ?_
      refine pu 8 (some 50) (fl 11 511) ?_
      refine one_ (i := 9) (N := none) (fl 11 1023) rfl rfl (by kernel_rfl) (by decide) (fun K hK => ?_)
      obtain ⟨f0, f1, f2, f3, f4, f5, f6, f7, g0, g1, g2, g3, g4, g5, g6, g7⟩ := Hb.out.cells
      refine skip_ (w1 := ?_) (by rfl) rfl ?_ ?_
      rotate_left
      · go_simp
        rfl
      clear f0 f1 f2 f3 f4 f5 f6 f7 g0 g1 g2 g3 g4 g5 g6 g7
      have hn_ : Lx.Hd (Below (bx + 1) W2 ((((((((Wd.setCell ⟨bw, 0, none⟩ (.bool false)).setCell ⟨bw, 1, none⟩ (.bool true)).setCell ⟨bw, 2, none⟩ (.bool false)).setCell ⟨bw, 3, none⟩ (.bool false)).setCell ⟨bw, 4, none⟩ (.bool false)).setCell ⟨bw, 5, none⟩ (.bool false)).setCell ⟨bw, 6, none⟩ (.bool false)).setCell ⟨bw, 7, none⟩ (.bool false))) := Lx.Hd.mk (below8 HB.out HBw1.out false true false false false false false false)
      have hq_ : Lx.Hd (FB ((((((((Wd.setCell ⟨bw, 0, none⟩ (.bool false)).setCell ⟨bw, 1, none⟩ (.bool true)).setCell ⟨bw, 2, none⟩ (.bool false)).setCell ⟨bw, 3, none⟩ (.bool false)).setCell ⟨bw, 4, none⟩ (.bool false)).setCell ⟨bw, 5, none⟩ (.bool false)).setCell ⟨bw, 6, none⟩ (.bool false)).setCell ⟨bw, 7, none⟩ (.bool false)) bw false true false false false false false false) := Lx.Hd.mk (FB.put Hb.out false true false false false false false false)
      clear HB Hb
      have HB := hn_
      have Hb := hq_
      clear hn_ hq_
      refine hK.out _ _ (BC.out _ HB.out) (fun hHeld => ?_)
      clear hK K
      refine pu 10 (some 3) (fl 11 2047) ?_
      refine done_ (by kernel_rfl) ?_
      go_wp2
      refine bodyPost_ret (results_ct rfl _ _ bw 144 #[.bool false, .bool true, .bool false, .bool false, .bool false, .bool false, .bool false, .bool false] (0, 0) _ rfl Hb.out Tryd.underlying144 rfl (by kernel_rfl)) rfl ⟨false, true, false, false, false, false, false, false, false, rfl, Lx.Hd.mk (by have h_ := K8.k7 h7; rw [show decide (0 ≤ s.f3) = false from HQ.out] at h_; exact h_), HW.out _ HB.out⟩
    · have HQ := Lx.Hd.mk hq
      go_upto_region 16 with (fail)
      clear f0 f1 f2 f3 f4 f5 f6 f7 g0 g1 g2 g3 g4 g5 g6 g7 p0 p1 p2 p3 p4 p5 p6 p7 p8 p9
      have HBd := Lx.Hd.mk (below_drew HB.out)
      have Hbd : Lx.Hd (FB W2.drew bw false false false false false false false false) := Lx.Hd.mk Hb.out
      refine start_ (n := 11) (S := fun w' => BkS w' bx s A5 A6 A7 A8 A9 c5 c6 c7 c8 c9) (ds := []) (fl 11 0) (by kernel_rfl) rfl rfl (BC.out _ HBd.out) (fun hHeld => ?_)
      clear HB Hb
      have HB := HBd
      have Hb := Hbd
      clear HBd Hbd
      obtain ⟨Wd, hWd⟩ : ∃ V, V = W2.drew := ⟨_, rfl⟩
      rw [← hWd] at HB Hb hHeld ⊢
      clear hWd
      refine pu 0 (some 42) (fl 11 1) ?_
      refine pu 1 (some 43) (fl 11 3) ?_
      refine tk 2 (some 44) (fl 11 7) hHeld (hr := by rintro w' ⟨s0, s1, s2, s3, s4, s5, s6, s7, s8, s9⟩; go_simp; with_reducible rfl) (h := ?_)
      refine pu 3 (some 45) (fl 11 15) ?_
      refine pu 4 (some 46) (fl 11 31) ?_
      refine pu 5 (some 47) (fl 11 63) ?_
      refine tk 6 (some 48) (fl 11 127) hHeld (hr := by rintro w' ⟨s0, s1, s2, s3, s4, s5, s6, s7, s8, s9⟩; go_simp; with_reducible rfl) (h := ?_)
      refine pu 7 (some 49) (fl 11 255) ?_
      refine pu 8 (some 50) (fl 11 511) ?_
      refine one_ (i := 9) (N := none) (fl 11 1023) rfl rfl (by kernel_rfl) (by decide) (fun K hK => ?_)
      obtain ⟨f0, f1, f2, f3, f4, f5, f6, f7, g0, g1, g2, g3, g4, g5, g6, g7⟩ := Hb.out.cells
      refine skip_ (w1 := ?_) (by rfl) rfl ?_ ?_
      rotate_left
      · go_simp
        rfl
      clear f0 f1 f2 f3 f4 f5 f6 f7 g0 g1 g2 g3 g4 g5 g6 g7
      have hn_ : Lx.Hd (Below (bx + 1) W2 ((((((((Wd.setCell ⟨bw, 0, none⟩ (.bool false)).setCell ⟨bw, 1, none⟩ (.bool true)).setCell ⟨bw, 2, none⟩ (.bool false)).setCell ⟨bw, 3, none⟩ (.bool false)).setCell ⟨bw, 4, none⟩ (.bool false)).setCell ⟨bw, 5, none⟩ (.bool false)).setCell ⟨bw, 6, none⟩ (.bool false)).setCell ⟨bw, 7, none⟩ (.bool false))) := Lx.Hd.mk (below8 HB.out HBw1.out false true false false false false false false)
      have hq_ : Lx.Hd (FB ((((((((Wd.setCell ⟨bw, 0, none⟩ (.bool false)).setCell ⟨bw, 1, none⟩ (.bool true)).setCell ⟨bw, 2, none⟩ (.bool false)).setCell ⟨bw, 3, none⟩ (.bool false)).setCell ⟨bw, 4, none⟩ (.bool false)).setCell ⟨bw, 5, none⟩ (.bool false)).setCell ⟨bw, 6, none⟩ (.bool false)).setCell ⟨bw, 7, none⟩ (.bool false)) bw false true false false false false false false) := Lx.Hd.mk (FB.put Hb.out false true false false false false false false)
      clear HB Hb
      have HB := hn_
      have Hb := hq_
      clear hn_ hq_
      refine hK.out _ _ (BC.out _ HB.out) (fun hHeld => ?_)
      clear hK K
      refine pu 10 (some 3) (fl 11 2047) ?_
      refine done_ (by kernel_rfl) ?_
      go_wp2
      refine bodyPost_ret (results_ct rfl _ _ bw 144 #[.bool false, .bool true, .bool false, .bool false, .bool false, .bool false, .bool false, .bool false] (0, 0) _ rfl Hb.out Tryd.underlying144 rfl (by kernel_rfl)) rfl ⟨false, true, false, false, false, false, false, false, decide (s.f3 ≤ 31), rfl, Lx.Hd.mk (by have h_ := K8.k7 h7; rw [show decide (0 ≤ s.f3) = true from HQ.out] at h_; exact h_), HW.out _ HB.out⟩
  by_cases h8 : s.f0 = 8
  · cases hq : decide (s.f3 ≥ 0)
    · have HQ := Lx.Hd.mk hq
      go_upto_region 16 with (fail)
      clear f0 f1 f2 f3 f4 f5 f6 f7 g0 g1 g2 g3 g4 g5 g6 g7 p0 p1 p2 p3 p4 p5 p6 p7 p8 p9
      have HBd := Lx.Hd.mk (below_drew HB.out)
      have Hbd : Lx.Hd (FB W2.drew bw false false false false false false false false) := Lx.Hd.mk Hb.out
      refine start_ (n := 11) (S := fun w' => BkS w' bx s A5 A6 A7 A8 A9 c5 c6 c7 c8 c9) (ds := []) (fl 11 0) (by kernel_rfl) rfl rfl (BC.out _ HBd.out) (fun hHeld => ?_)
      clear HB Hb
      have HB := HBd
      have Hb := Hbd
      clear HBd Hbd
      obtain ⟨Wd, hWd⟩ : ∃ V, V = W2.drew := ⟨_, rfl⟩
      rw [← hWd] at HB Hb hHeld ⊢
      clear hWd
      refine pu 0 (some 42) (fl 11 1) ?_
      refine pu 1 (some 43) (fl 11 3) ?_
      refine tk 2 (some 44) (fl 11 7) hHeld (hr := by rintro w' ⟨s0, s1, s2, s3, s4, s5, s6, s7, s8, s9⟩; go_simp; with_reducible rfl) (h := ?_)
      refine pu 3 (some 45) (fl 11 15) ?_
      refine pu 4 (some 46) (fl 11 31) ?_
      refine po 5 (some 47) (fl 11 63) ?_
      refine po 6 (some 48) (fl 11 127) ?_
      refine po 7 (some 49) (fl 11 255) ?_
      refine pu 8 (some 50) (fl 11 511) ?_
      refine one_ (i := 9) (N := none) (fl 11 1023) rfl rfl (by kernel_rfl) (by decide) (fun K hK => ?_)
      obtain ⟨f0, f1, f2, f3, f4, f5, f6, f7, g0, g1, g2, g3, g4, g5, g6, g7⟩ := Hb.out.cells
      refine skip_ (w1 := ?_) (by rfl) rfl ?_ ?_
      rotate_left
      · go_simp
        rfl
      clear f0 f1 f2 f3 f4 f5 f6 f7 g0 g1 g2 g3 g4 g5 g6 g7
      have hn_ : Lx.Hd (Below (bx + 1) W2 ((((((((Wd.setCell ⟨bw, 0, none⟩ (.bool false)).setCell ⟨bw, 1, none⟩ (.bool true)).setCell ⟨bw, 2, none⟩ (.bool false)).setCell ⟨bw, 3, none⟩ (.bool false)).setCell ⟨bw, 4, none⟩ (.bool false)).setCell ⟨bw, 5, none⟩ (.bool false)).setCell ⟨bw, 6, none⟩ (.bool false)).setCell ⟨bw, 7, none⟩ (.bool false))) := Lx.Hd.mk (below8 HB.out HBw1.out false true false false false false false false)
      have hq_ : Lx.Hd (FB ((((((((Wd.setCell ⟨bw, 0, none⟩ (.bool false)).setCell ⟨bw, 1, none⟩ (.bool true)).setCell ⟨bw, 2, none⟩ (.bool false)).setCell ⟨bw, 3, none⟩ (.bool false)).setCell ⟨bw, 4, none⟩ (.bool false)).setCell ⟨bw, 5, none⟩ (.bool false)).setCell ⟨bw, 6, none⟩ (.bool false)).setCell ⟨bw, 7, none⟩ (.bool false)) bw false true false false false false false false) := Lx.Hd.mk (FB.put Hb.out false true false false false false false false)
      clear HB Hb
      have HB := hn_
      have Hb := hq_
      clear hn_ hq_
      refine hK.out _ _ (BC.out _ HB.out) (fun hHeld => ?_)
      clear hK K
      refine pu 10 (some 3) (fl 11 2047) ?_
      refine done_ (by kernel_rfl) ?_
      go_wp2
      refine bodyPost_ret (results_ct rfl _ _ bw 144 #[.bool false, .bool true, .bool false, .bool false, .bool false, .bool false, .bool false, .bool false] (0, 0) _ rfl Hb.out Tryd.underlying144 rfl (by kernel_rfl)) rfl ⟨false, true, false, false, false, false, false, false, false, rfl, Lx.Hd.mk (by have h_ := K8.k8 h8; rw [show decide (0 ≤ s.f3) = false from HQ.out] at h_; exact h_), HW.out _ HB.out⟩
    · have HQ := Lx.Hd.mk hq
      go_upto_region 16 with (fail)
      clear f0 f1 f2 f3 f4 f5 f6 f7 g0 g1 g2 g3 g4 g5 g6 g7 p0 p1 p2 p3 p4 p5 p6 p7 p8 p9
      have HBd := Lx.Hd.mk (below_drew HB.out)
      have Hbd : Lx.Hd (FB W2.drew bw false false false false false false false false) := Lx.Hd.mk Hb.out
      refine start_ (n := 11) (S := fun w' => BkS w' bx s A5 A6 A7 A8 A9 c5 c6 c7 c8 c9) (ds := []) (fl 11 0) (by kernel_rfl) rfl rfl (BC.out _ HBd.out) (fun hHeld => ?_)
      clear HB Hb
      have HB := HBd
      have Hb := Hbd
      clear HBd Hbd
      obtain ⟨Wd, hWd⟩ : ∃ V, V = W2.drew := ⟨_, rfl⟩
      rw [← hWd] at HB Hb hHeld ⊢
      clear hWd
      refine pu 0 (some 42) (fl 11 1) ?_
      refine pu 1 (some 43) (fl 11 3) ?_
      refine tk 2 (some 44) (fl 11 7) hHeld (hr := by rintro w' ⟨s0, s1, s2, s3, s4, s5, s6, s7, s8, s9⟩; go_simp; with_reducible rfl) (h := ?_)
      refine pu 3 (some 45) (fl 11 15) ?_
      refine pu 4 (some 46) (fl 11 31) ?_
      refine pu 5 (some 47) (fl 11 63) ?_
      refine tk 6 (some 48) (fl 11 127) hHeld (hr := by rintro w' ⟨s0, s1, s2, s3, s4, s5, s6, s7, s8, s9⟩; go_simp; with_reducible rfl) (h := ?_)
      refine pu 7 (some 49) (fl 11 255) ?_
      refine pu 8 (some 50) (fl 11 511) ?_
      refine one_ (i := 9) (N := none) (fl 11 1023) rfl rfl (by kernel_rfl) (by decide) (fun K hK => ?_)
      obtain ⟨f0, f1, f2, f3, f4, f5, f6, f7, g0, g1, g2, g3, g4, g5, g6, g7⟩ := Hb.out.cells
      refine skip_ (w1 := ?_) (by rfl) rfl ?_ ?_
      rotate_left
      · go_simp
        rfl
      clear f0 f1 f2 f3 f4 f5 f6 f7 g0 g1 g2 g3 g4 g5 g6 g7
      have hn_ : Lx.Hd (Below (bx + 1) W2 ((((((((Wd.setCell ⟨bw, 0, none⟩ (.bool false)).setCell ⟨bw, 1, none⟩ (.bool true)).setCell ⟨bw, 2, none⟩ (.bool false)).setCell ⟨bw, 3, none⟩ (.bool false)).setCell ⟨bw, 4, none⟩ (.bool false)).setCell ⟨bw, 5, none⟩ (.bool false)).setCell ⟨bw, 6, none⟩ (.bool false)).setCell ⟨bw, 7, none⟩ (.bool false))) := Lx.Hd.mk (below8 HB.out HBw1.out false true false false false false false false)
      have hq_ : Lx.Hd (FB ((((((((Wd.setCell ⟨bw, 0, none⟩ (.bool false)).setCell ⟨bw, 1, none⟩ (.bool true)).setCell ⟨bw, 2, none⟩ (.bool false)).setCell ⟨bw, 3, none⟩ (.bool false)).setCell ⟨bw, 4, none⟩ (.bool false)).setCell ⟨bw, 5, none⟩ (.bool false)).setCell ⟨bw, 6, none⟩ (.bool false)).setCell ⟨bw, 7, none⟩ (.bool false)) bw false true false false false false false false) := Lx.Hd.mk (FB.put Hb.out false true false false false false false false)
      clear HB Hb
      have HB := hn_
      have Hb := hq_
      clear hn_ hq_
      refine hK.out _ _ (BC.out _ HB.out) (fun hHeld => ?_)
      clear hK K
      refine pu 10 (some 3) (fl 11 2047) ?_
      refine done_ (by kernel_rfl) ?_
      go_wp2
      refine bodyPost_ret (results_ct rfl _ _ bw 144 #[.bool false, .bool true, .bool false, .bool false, .bool false, .bool false, .bool false, .bool false] (0, 0) _ rfl Hb.out Tryd.underlying144 rfl (by kernel_rfl)) rfl ⟨false, true, false, false, false, false, false, false, decide (s.f3 ≤ 31), rfl, Lx.Hd.mk (by have h_ := K8.k8 h8; rw [show decide (0 ≤ s.f3) = true from HQ.out] at h_; exact h_), HW.out _ HB.out⟩
  by_cases h9 : s.f0 = 9
  · cases hq : decide (s.f3 ≥ 0)
    · have HQ := Lx.Hd.mk hq
      go_upto_region 18 with (fail)
      clear f0 f1 f2 f3 f4 f5 f6 f7 g0 g1 g2 g3 g4 g5 g6 g7 p0 p1 p2 p3 p4 p5 p6 p7 p8 p9
      have HBd := Lx.Hd.mk (below_drew HB.out)
      have Hbd : Lx.Hd (FB W2.drew bw false false false false false false false false) := Lx.Hd.mk Hb.out
      refine start_ (n := 11) (S := fun w' => BkS w' bx s A5 A6 A7 A8 A9 c5 c6 c7 c8 c9) (ds := []) (fl 11 0) (by kernel_rfl) rfl rfl (BC.out _ HBd.out) (fun hHeld => ?_)
      clear HB Hb
      have HB := HBd
      have Hb := Hbd
      clear HBd Hbd
      obtain ⟨Wd, hWd⟩ : ∃ V, V = W2.drew := ⟨_, rfl⟩
      rw [← hWd] at HB Hb hHeld ⊢
      clear hWd
      refine pu 0 (some 53) (fl 11 1) ?_
      refine pu 1 (some 54) (fl 11 3) ?_
      refine tk 2 (some 55) (fl 11 7) hHeld (hr := by rintro w' ⟨s0, s1, s2, s3, s4, s5, s6, s7, s8, s9⟩; go_simp; with_reducible rfl) (h := ?_)
      refine pu 3 (some 56) (fl 11 15) ?_
      refine pu 4 (some 57) (fl 11 31) ?_
      refine po 5 (some 58) (fl 11 63) ?_
      refine po 6 (some 59) (fl 11 127) ?_
      refine po 7 (some 60) (fl 11 255) ?_
      refine pu 8 (some 61) (fl 11 511) ?_
      refine one_ (i := 9) (N := none) (fl 11 1023) rfl rfl (by kernel_rfl) (by decide) (fun K hK => ?_)
      obtain ⟨f0, f1, f2, f3, f4, f5, f6, f7, g0, g1, g2, g3, g4, g5, g6, g7⟩ := Hb.out.cells
      refine skip_ (w1 := ?_) (by rfl) rfl ?_ ?_
      rotate_left
      · go_simp
        rfl
      clear f0 f1 f2 f3 f4 f5 f6 f7 g0 g1 g2 g3 g4 g5 g6 g7
      have hn_ : Lx.Hd (Below (bx + 1) W2 ((((((((Wd.setCell ⟨bw, 0, none⟩ (.bool false)).setCell ⟨bw, 1, none⟩ (.bool true)).setCell ⟨bw, 2, none⟩ (.bool false)).setCell ⟨bw, 3, none⟩ (.bool false)).setCell ⟨bw, 4, none⟩ (.bool false)).setCell ⟨bw, 5, none⟩ (.bool false)).setCell ⟨bw, 6, none⟩ (.bool false)).setCell ⟨bw, 7, none⟩ (.bool false))) := Lx.Hd.mk (below8 HB.out HBw1.out false true false false false false false false)
      have hq_ : Lx.Hd (FB ((((((((Wd.setCell ⟨bw, 0, none⟩ (.bool false)).setCell ⟨bw, 1, none⟩ (.bool true)).setCell ⟨bw, 2, none⟩ (.bool false)).setCell ⟨bw, 3, none⟩ (.bool false)).setCell ⟨bw, 4, none⟩ (.bool false)).setCell ⟨bw, 5, none⟩ (.bool false)).setCell ⟨bw, 6, none⟩ (.bool false)).setCell ⟨bw, 7, none⟩ (.bool false)) bw false true false false false false false false) := Lx.Hd.mk (FB.put Hb.out false true false false false false false false)
      clear HB Hb
      have HB := hn_
      have Hb := hq_
      clear hn_ hq_
      refine hK.out _ _ (BC.out _ HB.out) (fun hHeld => ?_)
      clear hK K
      refine pu 10 (some 3) (fl 11 2047) ?_
      refine done_ (by kernel_rfl) ?_
      go_wp2
      refine bodyPost_ret (results_ct rfl _ _ bw 144 #[.bool false, .bool true, .bool false, .bool false, .bool false, .bool false, .bool false, .bool false] (0, 0) _ rfl Hb.out Tryd.underlying144 rfl (by kernel_rfl)) rfl ⟨false, true, false, false, false, false, false, false, false, rfl, Lx.Hd.mk (by have h_ := K8.k9 h9; rw [show decide (0 ≤ s.f3) = false from HQ.out] at h_; exact h_), HW.out _ HB.out⟩
    · have HQ := Lx.Hd.mk hq
      go_upto_region 18 with (fail)
      clear f0 f1 f2 f3 f4 f5 f6 f7 g0 g1 g2 g3 g4 g5 g6 g7 p0 p1 p2 p3 p4 p5 p6 p7 p8 p9
      have HBd := Lx.Hd.mk (below_drew HB.out)
      have Hbd : Lx.Hd (FB W2.drew bw false false false false false false false false) := Lx.Hd.mk Hb.out
      refine start_ (n := 11) (S := fun w' => BkS w' bx s A5 A6 A7 A8 A9 c5 c6 c7 c8 c9) (ds := []) (fl 11 0) (by kernel_rfl) rfl rfl (BC.out _ HBd.out) (fun hHeld => ?_)
      clear HB Hb
      have HB := HBd
      have Hb := Hbd
      clear HBd Hbd
      obtain ⟨Wd, hWd⟩ : ∃ V, V = W2.drew := ⟨_, rfl⟩
      rw [← hWd] at HB Hb hHeld ⊢
      clear hWd
      refine pu 0 (some 53) (fl 11 1) ?_
      refine pu 1 (some 54) (fl 11 3) ?_
      refine tk 2 (some 55) (fl 11 7) hHeld (hr := by rintro w' ⟨s0, s1, s2, s3, s4, s5, s6, s7, s8, s9⟩; go_simp; with_reducible rfl) (h := ?_)
      refine pu 3 (some 56) (fl 11 15) ?_
      refine pu 4 (some 57) (fl 11 31) ?_
      refine pu 5 (some 58) (fl 11 63) ?_
      refine tk 6 (some 59) (fl 11 127) hHeld (hr := by rintro w' ⟨s0, s1, s2, s3, s4, s5, s6, s7, s8, s9⟩; go_simp; with_reducible rfl) (h := ?_)
      refine pu 7 (some 60) (fl 11 255) ?_
      refine pu 8 (some 61) (fl 11 511) ?_
      refine one_ (i := 9) (N := none) (fl 11 1023) rfl rfl (by kernel_rfl) (by decide) (fun K hK => ?_)
      obtain ⟨f0, f1, f2, f3, f4, f5, f6, f7, g0, g1, g2, g3, g4, g5, g6, g7⟩ := Hb.out.cells
      refine skip_ (w1 := ?_) (by rfl) rfl ?_ ?_
      rotate_left
      · go_simp
        rfl
      clear f0 f1 f2 f3 f4 f5 f6 f7 g0 g1 g2 g3 g4 g5 g6 g7
      have hn_ : Lx.Hd (Below (bx + 1) W2 ((((((((Wd.setCell ⟨bw, 0, none⟩ (.bool false)).setCell ⟨bw, 1, none⟩ (.bool true)).setCell ⟨bw, 2, none⟩ (.bool false)).setCell ⟨bw, 3, none⟩ (.bool false)).setCell ⟨bw, 4, none⟩ (.bool false)).setCell ⟨bw, 5, none⟩ (.bool false)).setCell ⟨bw, 6, none⟩ (.bool false)).setCell ⟨bw, 7, none⟩ (.bool false))) := Lx.Hd.mk (below8 HB.out HBw1.out false true false false false false false false)
      have hq_ : Lx.Hd (FB ((((((((Wd.setCell ⟨bw, 0, none⟩ (.bool false)).setCell ⟨bw, 1, none⟩ (.bool true)).setCell ⟨bw, 2, none⟩ (.bool false)).setCell ⟨bw, 3, none⟩ (.bool false)).setCell ⟨bw, 4, none⟩ (.bool false)).setCell ⟨bw, 5, none⟩ (.bool false)).setCell ⟨bw, 6, none⟩ (.bool false)).setCell ⟨bw, 7, none⟩ (.bool false)) bw false true false false false false false false) := Lx.Hd.mk (FB.put Hb.out false true false false false false false false)
      clear HB Hb
      have HB := hn_
      have Hb := hq_
      clear hn_ hq_
      refine hK.out _ _ (BC.out _ HB.out) (fun hHeld => ?_)
      clear hK K
      refine pu 10 (some 3) (fl 11 2047) ?_
      refine done_ (by kernel_rfl) ?_
      go_wp2
      refine bodyPost_ret (results_ct rfl _ _ bw 144 #[.bool false, .bool true, .bool false, .bool false, .bool false, .bool false, .bool false, .bool false] (0, 0) _ rfl Hb.out Tryd.underlying144 rfl (by kernel_rfl)) rfl ⟨false, true, false, false, false, false, false, false, decide (s.f3 ≤ 15), rfl, Lx.Hd.mk (by have h_ := K8.k9 h9; rw [show decide (0 ≤ s.f3) = true from HQ.out] at h_; exact h_), HW.out _ HB.out⟩
  by_cases h10 : s.f0 = 10
  · skip
    go_upto_region 20 with (fail)
    clear f0 f1 f2 f3 f4 f5 f6 f7 g0 g1 g2 g3 g4 g5 g6 g7 p0 p1 p2 p3 p4 p5 p6 p7 p8 p9
    have HBd := Lx.Hd.mk (below_drew HB.out)
    have Hbd : Lx.Hd (FB W2.drew bw false false false false false false false false) := Lx.Hd.mk Hb.out
    refine start_ (n := 7) (S := fun w' => BkS w' bx s A5 A6 A7 A8 A9 c5 c6 c7 c8 c9) (ds := []) (fl 7 0) (by kernel_rfl) rfl rfl (BC.out _ HBd.out) (fun hHeld => ?_)
    clear HB Hb
    have HB := HBd
    have Hb := Hbd
    clear HBd Hbd
    obtain ⟨Wd, hWd⟩ : ∃ V, V = W2.drew := ⟨_, rfl⟩
    rw [← hWd] at HB Hb hHeld ⊢
    clear hWd
    refine pu 0 (some 64) (fl 7 1) ?_
    refine pu 1 (some 65) (fl 7 3) ?_
    refine tk 2 (some 66) (fl 7 7) hHeld (hr := by rintro w' ⟨s0, s1, s2, s3, s4, s5, s6, s7, s8, s9⟩; go_simp; with_reducible rfl) (h := ?_)
    refine pu 3 (some 67) (fl 7 15) ?_
    refine pu 4 (some 68) (fl 7 31) ?_
    refine one_ (i := 5) (N := none) (fl 7 63) rfl rfl (by kernel_rfl) (by decide) (fun K hK => ?_)
    obtain ⟨f0, f1, f2, f3, f4, f5, f6, f7, g0, g1, g2, g3, g4, g5, g6, g7⟩ := Hb.out.cells
    refine skip_ (w1 := ?_) (by rfl) rfl ?_ ?_
    rotate_left
    · go_simp
      rfl
    clear f0 f1 f2 f3 f4 f5 f6 f7 g0 g1 g2 g3 g4 g5 g6 g7
    have hn_ : Lx.Hd (Below (bx + 1) W2 ((((((((Wd.setCell ⟨bw, 0, none⟩ (.bool false)).setCell ⟨bw, 1, none⟩ (.bool false)).setCell ⟨bw, 2, none⟩ (.bool false)).setCell ⟨bw, 3, none⟩ (.bool true)).setCell ⟨bw, 4, none⟩ (.bool false)).setCell ⟨bw, 5, none⟩ (.bool false)).setCell ⟨bw, 6, none⟩ (.bool true)).setCell ⟨bw, 7, none⟩ (.bool false))) := Lx.Hd.mk (below8 HB.out HBw1.out false false false true false false true false)
    have hq_ : Lx.Hd (FB ((((((((Wd.setCell ⟨bw, 0, none⟩ (.bool false)).setCell ⟨bw, 1, none⟩ (.bool false)).setCell ⟨bw, 2, none⟩ (.bool false)).setCell ⟨bw, 3, none⟩ (.bool true)).setCell ⟨bw, 4, none⟩ (.bool false)).setCell ⟨bw, 5, none⟩ (.bool false)).setCell ⟨bw, 6, none⟩ (.bool true)).setCell ⟨bw, 7, none⟩ (.bool false)) bw false false false true false false true false) := Lx.Hd.mk (FB.put Hb.out false false false true false false true false)
    clear HB Hb
    have HB := hn_
    have Hb := hq_
    clear hn_ hq_
    refine hK.out _ _ (BC.out _ HB.out) (fun hHeld => ?_)
    clear hK K
    refine pu 6 (some 3) (fl 7 127) ?_
    refine done_ (by kernel_rfl) ?_
    go_wp2
    refine bodyPost_ret (results_ct rfl _ _ bw 144 #[.bool false, .bool false, .bool false, .bool true, .bool false, .bool false, .bool true, .bool false] (0, 0) _ rfl Hb.out Tryd.underlying144 rfl (by kernel_rfl)) rfl ⟨false, false, false, true, false, false, true, false, decide (0 < s.f5.length), rfl, Lx.Hd.mk (by rw [show decide (0 < s.f5.length) = decide (1 ≤ (s.f5.length : Int)) from decide_eq_decide.2 (by omega)]; exact .k10 h10), HW.out _ HB.out⟩
  go_wp2
  clear f0 f1 f2 f3 f4 f5 f6 f7 g0 g1 g2 g3 g4 g5 g6 g7
  have hn_ : Lx.Hd (Below (bx + 1) W2 ((((((((W2.setCell ⟨bw, 0, none⟩ (.bool false)).setCell ⟨bw, 1, none⟩ (.bool false)).setCell ⟨bw, 2, none⟩ (.bool false)).setCell ⟨bw, 3, none⟩ (.bool false)).setCell ⟨bw, 4, none⟩ (.bool false)).setCell ⟨bw, 5, none⟩ (.bool false)).setCell ⟨bw, 6, none⟩ (.bool false)).setCell ⟨bw, 7, none⟩ (.bool false))) := Lx.Hd.mk (below8 HB.out HBw1.out false false false false false false false false)
  have hq_ : Lx.Hd (FB ((((((((W2.setCell ⟨bw, 0, none⟩ (.bool false)).setCell ⟨bw, 1, none⟩ (.bool false)).setCell ⟨bw, 2, none⟩ (.bool false)).setCell ⟨bw, 3, none⟩ (.bool false)).setCell ⟨bw, 4, none⟩ (.bool false)).setCell ⟨bw, 5, none⟩ (.bool false)).setCell ⟨bw, 6, none⟩ (.bool false)).setCell ⟨bw, 7, none⟩ (.bool false)) bw false false false false false false false false) := Lx.Hd.mk (FB.put Hb.out false false false false false false false false)
  clear HB Hb
  have HB := hn_
  have Hb := hq_
  clear hn_ hq_
  refine bodyPost_ret (results_ct rfl _ _ bw 144 #[.bool false, .bool false, .bool false, .bool false, .bool false, .bool false, .bool false, .bool false] (0, 0) _ rfl Hb.out Tryd.underlying144 rfl (by kernel_rfl)) rfl ⟨false, false, false, false, false, false, false, false, false, rfl, Lx.Hd.mk (.k0 ⟨h1, h2, h3, h4, h5, h6, h7, h8, h9, h10⟩), HW.out _ HB.out⟩
def StAtR (x : SS) : Prop := ∀ (A5 A6 A7 A8 A9 : Option Addr) (c5 c6 c7 c8 c9 : Nat) (W : World), RowsS W x A5 A6 A7 A8 A9 c5 c6 c7 c8 c9 → Calls Tryd.prog 88 #[.agg #[.int .i64 x.f0, .int .i64 x.f1, .int .i64 x.f2, .int .i64 x.f3, .string x.f4, .slice A5 x.f5.length c5, .slice A6 x.f6.length c6, .slice A7 x.f7.length c7, .slice A8 x.f8.length c8, .slice A9 x.f9.length c9]] W fun r W' => r = .returned (.bool (rightN (.st x))) ∧ Below W.heap.size W W'
theorem all_rightS : ∀ l : List SS, l.all (fun x => rightN (.st x)) = rightSs exprB stmtB l
  | [] => rfl
  | x :: l => by rw [List.all_cons, rightSs, all_rightS l]; rfl
set_option maxRecDepth 100000 in
set_option maxHeartbeats 4000000 in
theorem refAll (l : List SS) (A : Option Addr) (c : Nat) (w : World) (hC : kS.C w A l.length l) (ih : ∀ x ∈ l, StAtR x) :
    Calls Tryd.prog 113 #[.slice A l.length c] w fun r w' => r = .returned (.bool (rightSs exprB stmtB l)) ∧ Below w.heap.size w w' := by
  have hln : l.length ≤ 9223372036854775807 := hC.2.1
  have HC := Lx.Hd.mk hC
  have IH := Lx.Hd.mk ih
  clear hC ih
  rw [← all_rightS]
  go_enter Tryd.func113, Tryd.ntmps113
  go_wp2
  go_loopw [3] (fun t3 wr => ∃ i : Nat, i ≤ l.length ∧ t3 = .int .i64 i ∧ Lx.Hd ((l.take i).all (fun x => rightN (.st x)) = true) ∧ Lx.Hd (Below w.heap.size w wr)) (fun t3 _ => l.length - (intOf t3).toNat)
  case atStart => exact ⟨0, Nat.zero_le _, rfl, Lx.Hd.mk rfl, Lx.Hd.mk (Below.refl _ _)⟩
  case round =>
    obtain ⟨i, hi, rfl, HAL, HB⟩ := hrel
    by_cases hlt : i < l.length
    · obtain ⟨ad, Q5, d5, Q6, d6, Q7, d7, Q8, d8, Q9, d9,  rfl, q0, q1, q2, q3, q4, q5, q6, q7, q8, q9, k5, g5, k6, g6, k7, g7, k8, g8, k9, g9⟩ := at_T38 HC.out i (by omega) (by omega)
      have ex : rd_T38 l i = l[i] := by unfold rd_T38; rw [Int.toNat_natCast, List.getD_eq_getElem?_getD, List.getElem?_eq_getElem hlt]; rfl
      rw [ex] at q0 q1 q2 q3 q4 q5 q6 q7 q8 q9 k5 g5 k6 g6 k7 g7 k8 g8 k9 g9
      rw [Int.toNat_natCast] at q0 q1 q2 q3 q4 q5 q6 q7 q8 q9
      have hm : l[i] ∈ l := List.getElem_mem hlt
      have hst := IH.out l[i] hm
      unfold StAtR at hst
      have HT : Lx.Hd (l.take (i + 1) = l.take i ++ [l[i]]) := Lx.Hd.mk (by rw [List.take_succ_eq_append_getElem hlt])
      generalize l[i] = x at *
      clear ex
      have HM := Lx.Hd.mk hm
      have HK : Lx.Hd (∀ W, Below w.heap.size w W → Calls Tryd.prog 88 #[.agg #[.int .i64 x.f0, .int .i64 x.f1, .int .i64 x.f2, .int .i64 x.f3, .string x.f4, .slice Q5 x.f5.length d5, .slice Q6 x.f6.length d6, .slice Q7 x.f7.length d7, .slice Q8 x.f8.length d8, .slice Q9 x.f9.length d9]] W fun r W' => r = .returned (.bool (rightN (.st x))) ∧ Below W.heap.size W W') := Lx.Hd.mk fun W hb => hst Q5 Q6 Q7 Q8 Q9 d5 d6 d7 d8 d9 W (RowsS.below ⟨g5, g6, g7, g8, g9, k5, k6, k7, k8, k9⟩ hb)
      clear hst hm
      have r0 := pw_cell_below HB.out q0
      have r1 := pw_cell_below HB.out q1
      have r2 := pw_cell_below HB.out q2
      have r3 := pw_cell_below HB.out q3
      have r4 := pw_cell_below HB.out q4
      have r5 := pw_cell_below HB.out q5
      have r6 := pw_cell_below HB.out q6
      have r7 := pw_cell_below HB.out q7
      have r8 := pw_cell_below HB.out q8
      have r9 := pw_cell_below HB.out q9
      clear q0 q1 q2 q3 q4 q5 q6 q7 q8 q9 g5 g6 g7 g8 g9
      cases hx : rightN (.st x)
      all_goals
        go_wp2_with (first | (go_at_call 88; (with_reducible refine (HK.out _ HB.out).mono ?_); rw [hx]; rintro r W3 ⟨rfl, hb⟩; have HB3 : Lx.Hd (Below w.heap.size w W3) := Lx.Hd.mk (below_step HB.out hb); clear hb) | fail)
      · go_ret
        refine ⟨?_, HB3.out⟩
        have hf : l.all (fun x => rightN (.st x)) = false := by rw [List.all_eq_false]; exact ⟨x, HM.out, by rw [hx]; simp⟩
        rw [hf]; rfl
      · exact ⟨⟨i + 1, hlt, by go_num, Lx.Hd.mk (by rw [HT.out, List.all_append, HAL.out]; simp [hx]), HB3⟩, by simp [intOf]; omega⟩
    · go_wp2
      go_ret
      refine ⟨?_, HB.out⟩
      have hf : l.all (fun x => rightN (.st x)) = true := by rw [← List.take_length (l := l), ← (show i = l.length by omega)]; exact HAL.out
      rw [hf]; rfl
end Go.Proofs.YtgkhpecllhiidaaDoor.A
