/- The reference of chapter 6: are two programs the same. -/
import Derived.Test.YtgkhpecllhiidaaDoorZBb
import Derived.Test.YtgkhpecllhiidaaDoorZPw
import Derived.Test.YtgkhpecllhiidaaDoorZDg2
set_option linter.unusedVariables false
set_option linter.unusedSimpArgs false
namespace Go.Proofs.YtgkhpecllhiidaaDoor.A
open Go.RowKit Go.Shelf Go.Proofs.YtgkhpecllhiidaaDoor.As Go.Proofs.YtgkhpecllhiidaaDoorW.PrintWords Go.Proofs.YtgkhpecllhiidaaDoorW.PrintLast Go.Proofs.YtgkhpecllhiidaaDoorW.PrintMore
theorem two_new (W V : World) (Z : Obj) (h : Below W.heap.size W V) : ((V.alloc Z).alloc Z).heap[V.heap.size]? = some Z ∧ ((V.alloc Z).alloc Z).heap[V.heap.size + 1]? = some Z ∧ W.heap.size ≤ V.heap.size ∧ W.heap.size ≤ V.heap.size + 1 ∧ V.heap.size ≠ V.heap.size + 1 ∧ V.heap.size + 1 ≠ V.heap.size :=
  ⟨blk_alloc (World.alloc_heap_new V Z) _, by have := World.alloc_heap_new (V.alloc Z) Z; rwa [show (V.alloc Z).heap.size = V.heap.size + 1 by simp] at this, h.size, Nat.le_succ_of_le h.size, by omega, by omega⟩
theorem retb_eq {a b : Bool} (h : a = b) : Ending.returned (.bool a) = .returned (.bool b) := by rw [h]
theorem putG {W : World} {b : Nat} {u0 u1 u2 u3 u4 : Value} (h : W.heap[b]? = some (.cells #[u0, u1, u2, u3, u4] 99 (0, 0))) (v0 v1 v2 v3 v4 : Value) : (((((W.setCell ⟨b, 0, none⟩ (v0)).setCell ⟨b, 1, none⟩ (v1)).setCell ⟨b, 2, none⟩ (v2)).setCell ⟨b, 3, none⟩ (v3)).setCell ⟨b, 4, none⟩ (v4)).heap[b]? = some (.cells #[v0, v1, v2, v3, v4] 99 (0, 0)) := by
  exact (blk_put (cs' := #[v0, v1, v2, v3, v4]) (blk_put (cs' := #[v0, v1, v2, v3, u4]) (blk_put (cs' := #[v0, v1, v2, u3, u4]) (blk_put (cs' := #[v0, v1, u2, u3, u4]) (blk_put (cs' := #[v0, u1, u2, u3, u4]) h 0 v0 rfl) 1 v1 rfl) 2 v2 rfl) 3 v3 rfl) 4 v4 rfl)
theorem farG {W : World} {b g : Nat} {O : Obj} (h : W.heap[g]? = some O) (hne : g ≠ b) (v0 v1 v2 v3 v4 : Value) : (((((W.setCell ⟨b, 0, none⟩ (v0)).setCell ⟨b, 1, none⟩ (v1)).setCell ⟨b, 2, none⟩ (v2)).setCell ⟨b, 3, none⟩ (v3)).setCell ⟨b, 4, none⟩ (v4)).heap[g]? = some O := (Below.heap_setCell _ ⟨b, 4, none⟩ _ _ hne).trans <| (Below.heap_setCell _ ⟨b, 3, none⟩ _ _ hne).trans <| (Below.heap_setCell _ ⟨b, 2, none⟩ _ _ hne).trans <| (Below.heap_setCell _ ⟨b, 1, none⟩ _ _ hne).trans <| (Below.heap_setCell _ ⟨b, 0, none⟩ _ _ hne).trans <| h
theorem belG {W V : World} {b : Nat} (h : Below V.heap.size V W) (hb : V.heap.size ≤ b) (v0 v1 v2 v3 v4 : Value) : Below V.heap.size V (((((W.setCell ⟨b, 0, none⟩ (v0)).setCell ⟨b, 1, none⟩ (v1)).setCell ⟨b, 2, none⟩ (v2)).setCell ⟨b, 3, none⟩ (v3)).setCell ⟨b, 4, none⟩ (v4)) := (((((h.setCell (p := ⟨b, 0, none⟩) hb _).setCell (p := ⟨b, 1, none⟩) hb _).setCell (p := ⟨b, 2, none⟩) hb _).setCell (p := ⟨b, 3, none⟩) hb _).setCell (p := ⟨b, 4, none⟩) hb _)
theorem putT {W : World} {b : Nat} {u0 u1 u2 u3 : Value} (h : W.heap[b]? = some (.cells #[u0, u1, u2, u3] 105 (0, 0))) (v0 v1 v2 v3 : Value) : ((((W.setCell ⟨b, 0, none⟩ (v0)).setCell ⟨b, 1, none⟩ (v1)).setCell ⟨b, 2, none⟩ (v2)).setCell ⟨b, 3, none⟩ (v3)).heap[b]? = some (.cells #[v0, v1, v2, v3] 105 (0, 0)) := by
  exact (blk_put (cs' := #[v0, v1, v2, v3]) (blk_put (cs' := #[v0, v1, v2, u3]) (blk_put (cs' := #[v0, v1, u2, u3]) (blk_put (cs' := #[v0, u1, u2, u3]) h 0 v0 rfl) 1 v1 rfl) 2 v2 rfl) 3 v3 rfl)
theorem farT {W : World} {b g : Nat} {O : Obj} (h : W.heap[g]? = some O) (hne : g ≠ b) (v0 v1 v2 v3 : Value) : ((((W.setCell ⟨b, 0, none⟩ (v0)).setCell ⟨b, 1, none⟩ (v1)).setCell ⟨b, 2, none⟩ (v2)).setCell ⟨b, 3, none⟩ (v3)).heap[g]? = some O := (Below.heap_setCell _ ⟨b, 3, none⟩ _ _ hne).trans <| (Below.heap_setCell _ ⟨b, 2, none⟩ _ _ hne).trans <| (Below.heap_setCell _ ⟨b, 1, none⟩ _ _ hne).trans <| (Below.heap_setCell _ ⟨b, 0, none⟩ _ _ hne).trans <| h
theorem belT {W V : World} {b : Nat} (h : Below V.heap.size V W) (hb : V.heap.size ≤ b) (v0 v1 v2 v3 : Value) : Below V.heap.size V ((((W.setCell ⟨b, 0, none⟩ (v0)).setCell ⟨b, 1, none⟩ (v1)).setCell ⟨b, 2, none⟩ (v2)).setCell ⟨b, 3, none⟩ (v3)) := ((((h.setCell (p := ⟨b, 0, none⟩) hb _).setCell (p := ⟨b, 1, none⟩) hb _).setCell (p := ⟨b, 2, none⟩) hb _).setCell (p := ⟨b, 3, none⟩) hb _)
theorem putD {W : World} {b : Nat} {u0 u1 u2 u3 u4 u5 u6 : Value} (h : W.heap[b]? = some (.cells #[u0, u1, u2, u3, u4, u5, u6] 49 (0, 0))) (v0 v1 v2 v3 v4 v5 v6 : Value) : (((((((W.setCell ⟨b, 0, none⟩ (v0)).setCell ⟨b, 1, none⟩ (v1)).setCell ⟨b, 2, none⟩ (v2)).setCell ⟨b, 3, none⟩ (v3)).setCell ⟨b, 4, none⟩ (v4)).setCell ⟨b, 5, none⟩ (v5)).setCell ⟨b, 6, none⟩ (v6)).heap[b]? = some (.cells #[v0, v1, v2, v3, v4, v5, v6] 49 (0, 0)) := by
  exact (blk_put (cs' := #[v0, v1, v2, v3, v4, v5, v6]) (blk_put (cs' := #[v0, v1, v2, v3, v4, v5, u6]) (blk_put (cs' := #[v0, v1, v2, v3, v4, u5, u6]) (blk_put (cs' := #[v0, v1, v2, v3, u4, u5, u6]) (blk_put (cs' := #[v0, v1, v2, u3, u4, u5, u6]) (blk_put (cs' := #[v0, v1, u2, u3, u4, u5, u6]) (blk_put (cs' := #[v0, u1, u2, u3, u4, u5, u6]) h 0 v0 rfl) 1 v1 rfl) 2 v2 rfl) 3 v3 rfl) 4 v4 rfl) 5 v5 rfl) 6 v6 rfl)
theorem farD {W : World} {b g : Nat} {O : Obj} (h : W.heap[g]? = some O) (hne : g ≠ b) (v0 v1 v2 v3 v4 v5 v6 : Value) : (((((((W.setCell ⟨b, 0, none⟩ (v0)).setCell ⟨b, 1, none⟩ (v1)).setCell ⟨b, 2, none⟩ (v2)).setCell ⟨b, 3, none⟩ (v3)).setCell ⟨b, 4, none⟩ (v4)).setCell ⟨b, 5, none⟩ (v5)).setCell ⟨b, 6, none⟩ (v6)).heap[g]? = some O := (Below.heap_setCell _ ⟨b, 6, none⟩ _ _ hne).trans <| (Below.heap_setCell _ ⟨b, 5, none⟩ _ _ hne).trans <| (Below.heap_setCell _ ⟨b, 4, none⟩ _ _ hne).trans <| (Below.heap_setCell _ ⟨b, 3, none⟩ _ _ hne).trans <| (Below.heap_setCell _ ⟨b, 2, none⟩ _ _ hne).trans <| (Below.heap_setCell _ ⟨b, 1, none⟩ _ _ hne).trans <| (Below.heap_setCell _ ⟨b, 0, none⟩ _ _ hne).trans <| h
theorem belD {W V : World} {b : Nat} (h : Below V.heap.size V W) (hb : V.heap.size ≤ b) (v0 v1 v2 v3 v4 v5 v6 : Value) : Below V.heap.size V (((((((W.setCell ⟨b, 0, none⟩ (v0)).setCell ⟨b, 1, none⟩ (v1)).setCell ⟨b, 2, none⟩ (v2)).setCell ⟨b, 3, none⟩ (v3)).setCell ⟨b, 4, none⟩ (v4)).setCell ⟨b, 5, none⟩ (v5)).setCell ⟨b, 6, none⟩ (v6)) := (((((((h.setCell (p := ⟨b, 0, none⟩) hb _).setCell (p := ⟨b, 1, none⟩) hb _).setCell (p := ⟨b, 2, none⟩) hb _).setCell (p := ⟨b, 3, none⟩) hb _).setCell (p := ⟨b, 4, none⟩) hb _).setCell (p := ⟨b, 5, none⟩) hb _).setCell (p := ⟨b, 6, none⟩) hb _)
def TwoG (w' : World) (bx bz : Nat) (ad1 ad2 : Addr) (i : Nat) (p q : SP) (c1 d1 : Nat) (x y : SG) (Q3 : Option Addr) (e3 : Nat) (R3 : Option Addr) (f3 : Nat) : Prop := w'.cell? ⟨bx, 1, none⟩ = some (.slice (some ad1) p.f1.length c1) ∧ w'.cell? ⟨bz, 1, none⟩ = some (.slice (some ad2) q.f1.length d1) ∧ w'.cell? (ad1.add (i * 5)) = some (.string x.f0) ∧ w'.cell? ⟨(ad1.add (i * 5)).block, (ad1.add (i * 5)).off + 1, none⟩ = some (.int .i64 x.f1) ∧ w'.cell? ⟨(ad1.add (i * 5)).block, (ad1.add (i * 5)).off + 2, none⟩ = some (.int .i64 x.f2) ∧ w'.cell? ⟨(ad1.add (i * 5)).block, (ad1.add (i * 5)).off + 3, none⟩ = some (.slice Q3 x.f3.length e3) ∧ w'.cell? ⟨(ad1.add (i * 5)).block, (ad1.add (i * 5)).off + 4, none⟩ = some (.int .i64 x.f4) ∧ w'.cell? (ad2.add (i * 5)) = some (.string y.f0) ∧ w'.cell? ⟨(ad2.add (i * 5)).block, (ad2.add (i * 5)).off + 1, none⟩ = some (.int .i64 y.f1) ∧ w'.cell? ⟨(ad2.add (i * 5)).block, (ad2.add (i * 5)).off + 2, none⟩ = some (.int .i64 y.f2) ∧ w'.cell? ⟨(ad2.add (i * 5)).block, (ad2.add (i * 5)).off + 3, none⟩ = some (.slice R3 y.f3.length f3) ∧ w'.cell? ⟨(ad2.add (i * 5)).block, (ad2.add (i * 5)).off + 4, none⟩ = some (.int .i64 y.f4)
def TwoT (w' : World) (bx bz : Nat) (ad1 ad2 : Addr) (i : Nat) (p q : SP) (c2 d2 : Nat) (x y : ST) : Prop := w'.cell? ⟨bx, 2, none⟩ = some (.slice (some ad1) p.f2.length c2) ∧ w'.cell? ⟨bz, 2, none⟩ = some (.slice (some ad2) q.f2.length d2) ∧ w'.cell? (ad1.add (i * 4)) = some (.string x.f0) ∧ w'.cell? ⟨(ad1.add (i * 4)).block, (ad1.add (i * 4)).off + 1, none⟩ = some (.bool x.f1) ∧ w'.cell? ⟨(ad1.add (i * 4)).block, (ad1.add (i * 4)).off + 2, none⟩ = some (.bool x.f2) ∧ w'.cell? ⟨(ad1.add (i * 4)).block, (ad1.add (i * 4)).off + 3, none⟩ = some (.int .i64 x.f3) ∧ w'.cell? (ad2.add (i * 4)) = some (.string y.f0) ∧ w'.cell? ⟨(ad2.add (i * 4)).block, (ad2.add (i * 4)).off + 1, none⟩ = some (.bool y.f1) ∧ w'.cell? ⟨(ad2.add (i * 4)).block, (ad2.add (i * 4)).off + 2, none⟩ = some (.bool y.f2) ∧ w'.cell? ⟨(ad2.add (i * 4)).block, (ad2.add (i * 4)).off + 3, none⟩ = some (.int .i64 y.f3)
def TwoD (w' : World) (bx bz : Nat) (ad1 ad2 : Addr) (i : Nat) (p q : SP) (c3 d3 : Nat) (x y : SD) (Q2 Q5 : Option Addr) (e2 e5 : Nat) (R2 R5 : Option Addr) (f2 f5 : Nat) : Prop := w'.cell? ⟨bx, 3, none⟩ = some (.slice (some ad1) p.f3.length c3) ∧ w'.cell? ⟨bz, 3, none⟩ = some (.slice (some ad2) q.f3.length d3) ∧ w'.cell? (ad1.add (i * 7)) = some (.int .i64 x.f0) ∧ w'.cell? ⟨(ad1.add (i * 7)).block, (ad1.add (i * 7)).off + 1, none⟩ = some (.string x.f1) ∧ w'.cell? ⟨(ad1.add (i * 7)).block, (ad1.add (i * 7)).off + 2, none⟩ = some (.slice Q2 x.f2.length e2) ∧ w'.cell? ⟨(ad1.add (i * 7)).block, (ad1.add (i * 7)).off + 3, none⟩ = some (.int .i64 x.f3) ∧ w'.cell? ⟨(ad1.add (i * 7)).block, (ad1.add (i * 7)).off + 4, none⟩ = some (.int .i64 x.f4) ∧ w'.cell? ⟨(ad1.add (i * 7)).block, (ad1.add (i * 7)).off + 5, none⟩ = some (.slice Q5 x.f5.length e5) ∧ w'.cell? ⟨(ad1.add (i * 7)).block, (ad1.add (i * 7)).off + 6, none⟩ = some (.int .i64 x.f6) ∧ w'.cell? (ad2.add (i * 7)) = some (.int .i64 y.f0) ∧ w'.cell? ⟨(ad2.add (i * 7)).block, (ad2.add (i * 7)).off + 1, none⟩ = some (.string y.f1) ∧ w'.cell? ⟨(ad2.add (i * 7)).block, (ad2.add (i * 7)).off + 2, none⟩ = some (.slice R2 y.f2.length f2) ∧ w'.cell? ⟨(ad2.add (i * 7)).block, (ad2.add (i * 7)).off + 3, none⟩ = some (.int .i64 y.f3) ∧ w'.cell? ⟨(ad2.add (i * 7)).block, (ad2.add (i * 7)).off + 4, none⟩ = some (.int .i64 y.f4) ∧ w'.cell? ⟨(ad2.add (i * 7)).block, (ad2.add (i * 7)).off + 5, none⟩ = some (.slice R5 y.f5.length f5) ∧ w'.cell? ⟨(ad2.add (i * 7)).block, (ad2.add (i * 7)).off + 6, none⟩ = some (.int .i64 y.f6)
set_option maxRecDepth 100000 in
set_option maxHeartbeats 16000000 in
theorem refSame (p q : SP) (A1 A2 A3 : Option Addr) (c1 c2 c3 : Nat) (B1 B2 B3 : Option Addr) (d1 d2 d3 : Nat) (w : World) (hP : RowsP w p A1 A2 A3 c1 c2 c3) (hQ : RowsP w q B1 B2 B3 d1 d2 d3) :
    Calls Tryd.prog 44 #[.agg #[.int .i64 p.f0, .slice A1 p.f1.length c1, .slice A2 p.f2.length c2, .slice A3 p.f3.length c3], .agg #[.int .i64 q.f0, .slice B1 q.f1.length d1, .slice B2 q.f2.length d2, .slice B3 q.f3.length d3]] w fun r w' => r = .returned (.bool (sameP p q)) ∧ Below w.heap.size w w' := by
  have n1 : p.f1.length ≤ 9223372036854775807 := hP.1.2.1
  have n2 : p.f2.length ≤ 9223372036854775807 := hP.2.1.2.1
  have n3 : p.f3.length ≤ 9223372036854775807 := hP.2.2.1.2.1
  obtain ⟨X, hX⟩ : ∃ X, sameP p q = X := ⟨_, rfl⟩
  rw [hX]
  rw [sameP_eq] at hX
  have HX := Lx.Hd.mk hX
  have HR0 := Lx.Hd.mk (And.intro hP hQ)
  clear hX hP hQ
  go_enter Tryd.func44, Tryd.ntmps44
  go_upto_region 1 with (fail)
  refine name_world fun W2 hW2 => ?_
  have HB0 : Lx.Hd (Below w.heap.size w W2) := Lx.Hd.mk (by rw [hW2]; exact below_alloc (below_alloc (Below.refl _ _) _) _)
  have z1 : (w.alloc (.cells #[.int .i64 p.f0, .slice A1 p.f1.length c1, .slice A2 p.f2.length c2, .slice A3 p.f3.length c3] 46)).heap.size = w.heap.size + 1 := by simp
  have hb1 : W2.heap[w.heap.size]? = some (.cells #[.int .i64 p.f0, .slice A1 p.f1.length c1, .slice A2 p.f2.length c2, .slice A3 p.f3.length c3] 46 (0, 0)) := by rw [hW2]; exact blk_alloc (World.alloc_heap_new w _) _
  have hb2 : W2.heap[w.heap.size + 1]? = some (.cells #[.int .i64 q.f0, .slice B1 q.f1.length d1, .slice B2 q.f2.length d2, .slice B3 q.f3.length d3] 46 (0, 0)) := by rw [hW2, ← z1]; exact World.alloc_heap_new _ _
  have BC1 := Lx.Hd.mk (bkP_of hb1)
  have BC2 := Lx.Hd.mk (bkP_of hb2)
  have HR : Lx.Hd (RowsP W2 p A1 A2 A3 c1 c2 c3 ∧ RowsP W2 q B1 B2 B3 d1 d2 d3) := Lx.Hd.mk ⟨RowsP.below HR0.out.1 HB0.out, RowsP.below HR0.out.2 HB0.out⟩
  have HB : Lx.Hd (Below W2.heap.size W2 W2) := Lx.Hd.mk (Below.refl _ _)
  clear hW2 hb1 hb2 HR0 z1
  generalize w.heap.size + 1 = bz at BC2 ⊢
  generalize w.heap.size = bx at BC1 ⊢
  obtain ⟨p0, p1, p2, p3⟩ := BC1.out _ HB.out; obtain ⟨q0, q1, q2, q3⟩ := BC2.out _ HB.out
  by_cases y0 : p.f0 = q.f0
  rotate_left
  · as_aux_lemma =>
      go_wp2
      go_ret
      exact ⟨retb_eq (show false = X by rw [← HX.out]; simp [y0]), below_step HB0.out HB.out⟩
  by_cases y1 : p.f1.length = q.f1.length
  rotate_left
  · as_aux_lemma =>
      go_wp2
      go_ret
      exact ⟨retb_eq (show false = X by rw [← HX.out, eqL_len sameG _ _ y1]; simp), below_step HB0.out HB.out⟩
  by_cases y2 : p.f2.length = q.f2.length
  rotate_left
  · as_aux_lemma =>
      go_wp2
      go_ret
      exact ⟨retb_eq (show false = X by rw [← HX.out, eqL_len sameT _ _ y2]; simp), below_step HB0.out HB.out⟩
  by_cases y3 : p.f3.length = q.f3.length
  rotate_left
  · as_aux_lemma =>
      go_wp2
      go_ret
      exact ⟨retb_eq (show false = X by rw [← HX.out, eqL_len sameD _ _ y3]; simp), below_step HB0.out HB.out⟩
  go_upto_region 3 with (fail)
  have HN1 := Lx.Hd.mk y1
  have HN2 := Lx.Hd.mk y2
  have HN3 := Lx.Hd.mk y3
  have HXE : Lx.Hd (X = (eqL sameG p.f1 q.f1 && (eqL sameT p.f2 q.f2 && eqL sameD p.f3 q.f3))) := Lx.Hd.mk (by rw [← HX.out]; simp [y0])
  clear y0 y1 y2 y3 HX
  go_upto_block 0 with (fail)
  go_cut [0, 1, 4, 5, 6, 7, 8] (fun v0 v1 v4 v5 v6 v7 v8 wc => Lx.Hd (eqL sameG p.f1 q.f1 = true) ∧ Lx.Hd (Below W2.heap.size W2 wc))
  case first =>
    rename_i Kq hKq Jq Kq1 hJq hKq1
    clear hKq
    go_wp2
    go_loopw [5] (fun t5 wr => ∃ i : Nat, i ≤ p.f1.length ∧ t5 = .int .i64 i ∧ Lx.Hd (eqL sameG p.f1 q.f1 = eqL sameG (p.f1.drop i) (q.f1.drop i)) ∧ Lx.Hd (Below W2.heap.size W2 wr)) (fun t5 _ => p.f1.length - (intOf t5).toNat)
    case atStart => exact ⟨0, Nat.zero_le _, rfl, Lx.Hd.mk rfl, HB⟩
    case round =>
      clear p0 p1 p2 p3 q0 q1 q2 q3 HB
      obtain ⟨i, hi, rfl, HAL, HB⟩ := hrel
      obtain ⟨p0, p1, p2, p3⟩ := BC1.out _ HB.out
      obtain ⟨q0, q1, q2, q3⟩ := BC2.out _ HB.out
      by_cases hlt : i < p.f1.length
      · have hlq : i < q.f1.length := by have := HN1.out; omega
        obtain ⟨ad1, Q3, e3, rfl, g0, g1, g2, g3, g4, kx3, gx3⟩ := at_T99 (show kG.C W2 A1 p.f1.length p.f1 from HR.out.1.1) i (by omega) (by omega)
        obtain ⟨ad2, R3, f3, rfl, h0, h1, h2, h3, h4, ky3, gy3⟩ := at_T99 (show kG.C W2 B1 q.f1.length q.f1 from HR.out.2.1) i (by omega) (by omega)
        have ex : rd_T99 p.f1 i = p.f1[i] := by unfold rd_T99; rw [Int.toNat_natCast, List.getD_eq_getElem?_getD, List.getElem?_eq_getElem hlt]; rfl
        have ey : rd_T99 q.f1 i = q.f1[i] := by unfold rd_T99; rw [Int.toNat_natCast, List.getD_eq_getElem?_getD, List.getElem?_eq_getElem hlq]; rfl
        rw [ex] at g0 g1 g2 g3 g4 kx3 gx3
        rw [ey] at h0 h1 h2 h3 h4 ky3 gy3
        rw [Int.toNat_natCast] at g0 g1 g2 g3 g4 h0 h1 h2 h3 h4
        have hD : eqL sameG (p.f1.drop i) (q.f1.drop i) = (sameG p.f1[i] q.f1[i] && eqL sameG (p.f1.drop (i + 1)) (q.f1.drop (i + 1))) := by rw [List.drop_eq_getElem_cons hlt, List.drop_eq_getElem_cons hlq, eqL]
        have HD := Lx.Hd.mk (HAL.out.trans hD)
        clear hD HAL
        generalize p.f1[i] = x at *
        generalize q.f1[i] = y at *
        clear ex ey
        have HGX := Lx.Hd.mk (And.intro gx3 gy3)
        clear gx3 gy3
        go_upto_region 6 with (fail)
        clear p0 p1 p2 p3 q0 q1 q2 q3
        have HF : Lx.Hd (∀ w', Below W2.heap.size W2 w' → TwoG w' bx bz ad1 ad2 i p q c1 d1 x y Q3 e3 R3 f3) := Lx.Hd.mk fun w' hb => ⟨(BC1.out _ hb).2.1, (BC2.out _ hb).2.1, pw_cell_below hb g0, pw_cell_below hb g1, pw_cell_below hb g2, pw_cell_below hb g3, pw_cell_below hb g4, pw_cell_below hb h0, pw_cell_below hb h1, pw_cell_below hb h2, pw_cell_below hb h3, pw_cell_below hb h4⟩
        clear g0 g1 g2 g3 g4 h0 h1 h2 h3 h4
        have HBd := Lx.Hd.mk (below_drew HB.out)
        refine start_ (n := 14) (S := fun w' => TwoG w' bx bz ad1 ad2 i p q c1 d1 x y Q3 e3 R3 f3) (ds := []) (fl 14 0) (by kernel_rfl) rfl rfl (HF.out _ HBd.out) (fun hHeld => ?_)
        clear HB
        have HB := HBd
        clear HBd
        obtain ⟨Wd, hWd⟩ : ∃ V, V = wr.drew := ⟨_, rfl⟩
        rw [← hWd] at HB hHeld ⊢
        clear hWd
        refine pu 0 (some 55) (fl 14 1) ?_
        refine pu 2 (some 57) (fl 14 5) ?_
        refine pu 5 (some 60) (fl 14 37) ?_
        refine pu 7 (some 62) (fl 14 165) ?_
        refine tk 1 (some 56) (fl 14 167) hHeld (hr := by rintro w' ⟨s0, s1, s2, s3, s4, s5, s6, s7, s8, s9, s10, s11⟩; go_simp; with_reducible rfl) (h := ?_)
        refine pu 3 (some 58) (fl 14 175) ?_
        refine tk 4 (some 59) (fl 14 191) hHeld (hr := by rintro w' ⟨s0, s1, s2, s3, s4, s5, s6, s7, s8, s9, s10, s11⟩; go_simp; with_reducible rfl) (h := ?_)
        refine tk 6 (some 61) (fl 14 255) hHeld (hr := by rintro w' ⟨s0, s1, s2, s3, s4, s5, s6, s7, s8, s9, s10, s11⟩; go_simp; with_reducible rfl) (h := ?_)
        refine pu 8 (some 63) (fl 14 511) ?_
        refine tk 9 (some 64) (fl 14 1023) hHeld (hr := by rintro w' ⟨s0, s1, s2, s3, s4, s5, s6, s7, s8, s9, s10, s11⟩; go_simp; with_reducible rfl) (h := ?_)
        refine join_ (σ := Nat × Nat) 2 (fl 14 4095) (fun s => [(6, .pointer (some ⟨s.1, 0, none⟩)), (7, .pointer (some ⟨s.2, 0, none⟩))]) (fun s w' => Below W2.heap.size W2 w' ∧ w'.heap[s.1]? = some (.cells #[.string ⟨#[]⟩, .int .i64 0, .int .i64 0, .slice none 0 0, .int .i64 0] 99 (0, 0)) ∧ w'.heap[s.2]? = some (.cells #[.string ⟨#[]⟩, .int .i64 0, .int .i64 0, .slice none 0 0, .int .i64 0] 99 (0, 0)) ∧ s.1 ≠ s.2 ∧ W2.heap.size ≤ s.1 ∧ W2.heap.size ≤ s.2) ?_ ?_
        rotate_left
        · intro hCont
          refine two_ (i := 10) (j := 11) (Ni := some 6) (Nj := some 7) (fl 14 2047) (fl 14 3071) rfl rfl rfl rfl (by kernel_rfl) (by decide) (by decide) (fun K hK => ?_) (fun K hK => ?_)
          · skip
            refine value_ (w1 := ?_) (v := ?_) (by rfl) rfl ?_ ?_
            rotate_left 2
            · go_simp
              constructor
              · rfl
              · rfl
            have HB1 : Lx.Hd (Below W2.heap.size W2 (Wd.alloc (.cells #[.string ⟨#[]⟩, .int .i64 0, .int .i64 0, .slice none 0 0, .int .i64 0] 99))) := Lx.Hd.mk (below_alloc HB.out _)
            refine hK.out _ _ (HF.out _ HB1.out) (fun hHeld => ?_)
            clear hK K
            refine norm_ (a' := ?_) ?_ ?_
            rotate_left; · (show Act.put _ (some 6) _ = _; simp only [Act.put, List.setIfInBounds_toArray, List.set_cons_zero, List.set_cons_succ, i64_w, i32_w]; rfl)
            refine one_ (i := 11) (N := some 7) (fl 14 4095) rfl rfl (by kernel_rfl) (by decide) (fun K hK => ?_)
            refine value_ (w1 := ?_) (v := ?_) (by rfl) rfl ?_ ?_
            rotate_left 2
            · go_simp
              constructor
              · rfl
              · rfl
            have HB2 : Lx.Hd (Below W2.heap.size W2 ((Wd.alloc (.cells #[.string ⟨#[]⟩, .int .i64 0, .int .i64 0, .slice none 0 0, .int .i64 0] 99)).alloc (.cells #[.string ⟨#[]⟩, .int .i64 0, .int .i64 0, .slice none 0 0, .int .i64 0] 99))) := Lx.Hd.mk (below_alloc HB1.out _)
            refine hK.out _ _ (HF.out _ HB2.out) (fun hHeld => ?_)
            clear hK K
            refine norm_ (a' := ?_) ?_ ?_
            rotate_left; · (show Act.put _ (some 7) _ = _; simp only [Act.put, List.setIfInBounds_toArray, List.set_cons_zero, List.set_cons_succ, i64_w, i32_w]; rfl)
            exact norm_ (by simp only [putAll, Act.put, List.setIfInBounds_toArray, List.set_cons_zero, List.set_cons_succ]) (hCont (Wd.heap.size, Wd.heap.size + 1) _ ⟨HB2.out, (two_new W2 Wd (.cells #[.string ⟨#[]⟩, .int .i64 0, .int .i64 0, .slice none 0 0, .int .i64 0] 99) HB.out).1, (two_new W2 Wd (.cells #[.string ⟨#[]⟩, .int .i64 0, .int .i64 0, .slice none 0 0, .int .i64 0] 99) HB.out).2.1, (two_new W2 Wd (.cells #[.string ⟨#[]⟩, .int .i64 0, .int .i64 0, .slice none 0 0, .int .i64 0] 99) HB.out).2.2.2.2.1, (two_new W2 Wd (.cells #[.string ⟨#[]⟩, .int .i64 0, .int .i64 0, .slice none 0 0, .int .i64 0] 99) HB.out).2.2.1, (two_new W2 Wd (.cells #[.string ⟨#[]⟩, .int .i64 0, .int .i64 0, .slice none 0 0, .int .i64 0] 99) HB.out).2.2.2.1⟩)
          · skip
            refine value_ (w1 := ?_) (v := ?_) (by rfl) rfl ?_ ?_
            rotate_left 2
            · go_simp
              constructor
              · rfl
              · rfl
            have HB1 : Lx.Hd (Below W2.heap.size W2 (Wd.alloc (.cells #[.string ⟨#[]⟩, .int .i64 0, .int .i64 0, .slice none 0 0, .int .i64 0] 99))) := Lx.Hd.mk (below_alloc HB.out _)
            refine hK.out _ _ (HF.out _ HB1.out) (fun hHeld => ?_)
            clear hK K
            refine norm_ (a' := ?_) ?_ ?_
            rotate_left; · (show Act.put _ (some 7) _ = _; simp only [Act.put, List.setIfInBounds_toArray, List.set_cons_zero, List.set_cons_succ, i64_w, i32_w]; rfl)
            refine one_ (i := 10) (N := some 6) (fl 14 4095) rfl rfl (by kernel_rfl) (by decide) (fun K hK => ?_)
            refine value_ (w1 := ?_) (v := ?_) (by rfl) rfl ?_ ?_
            rotate_left 2
            · go_simp
              constructor
              · rfl
              · rfl
            have HB2 : Lx.Hd (Below W2.heap.size W2 ((Wd.alloc (.cells #[.string ⟨#[]⟩, .int .i64 0, .int .i64 0, .slice none 0 0, .int .i64 0] 99)).alloc (.cells #[.string ⟨#[]⟩, .int .i64 0, .int .i64 0, .slice none 0 0, .int .i64 0] 99))) := Lx.Hd.mk (below_alloc HB1.out _)
            refine hK.out _ _ (HF.out _ HB2.out) (fun hHeld => ?_)
            clear hK K
            refine norm_ (a' := ?_) ?_ ?_
            rotate_left; · (show Act.put _ (some 6) _ = _; simp only [Act.put, List.setIfInBounds_toArray, List.set_cons_zero, List.set_cons_succ, i64_w, i32_w]; rfl)
            exact norm_ (by simp only [putAll, Act.put, List.setIfInBounds_toArray, List.set_cons_zero, List.set_cons_succ]) (hCont (Wd.heap.size + 1, Wd.heap.size) _ ⟨HB2.out, (two_new W2 Wd (.cells #[.string ⟨#[]⟩, .int .i64 0, .int .i64 0, .slice none 0 0, .int .i64 0] 99) HB.out).2.1, (two_new W2 Wd (.cells #[.string ⟨#[]⟩, .int .i64 0, .int .i64 0, .slice none 0 0, .int .i64 0] 99) HB.out).1, (two_new W2 Wd (.cells #[.string ⟨#[]⟩, .int .i64 0, .int .i64 0, .slice none 0 0, .int .i64 0] 99) HB.out).2.2.2.2.2, (two_new W2 Wd (.cells #[.string ⟨#[]⟩, .int .i64 0, .int .i64 0, .slice none 0 0, .int .i64 0] 99) HB.out).2.2.2.1, (two_new W2 Wd (.cells #[.string ⟨#[]⟩, .int .i64 0, .int .i64 0, .slice none 0 0, .int .i64 0] 99) HB.out).2.2.1⟩)
        clear HB hHeld
        rintro ⟨b6, b7⟩ W8 ⟨hB_, z6_, z7_, hne_, l6_, l7_⟩
        dsimp only at z6_ z7_ hne_ l6_ l7_
        have HB := Lx.Hd.mk hB_
        have Z6 := Lx.Hd.mk z6_
        have Z7 := Lx.Hd.mk z7_
        have HNE := Lx.Hd.mk hne_
        have L6 := Lx.Hd.mk l6_
        have L7 := Lx.Hd.mk l7_
        clear hB_ z6_ z7_ hne_ l6_ l7_
        have hHeld : TwoG W8 bx bz ad1 ad2 i p q c1 d1 x y Q3 e3 R3 f3 := HF.out _ HB.out
        refine norm_ (a' := ?_) ?_ ?_
        rotate_left; · (simp only [putAll, Act.put, List.setIfInBounds_toArray, List.set_cons_zero, List.set_cons_succ]; rfl)
        refine one_ (i := 12) (N := none) (fl 14 8191) rfl rfl (by kernel_rfl) (by decide) (fun K hK => ?_)
        have c0_ : W8.cell? ⟨b6, 0, none⟩ = some (.string ⟨#[]⟩) := (blk_cell Z6.out 0).trans rfl
        have c1_ : W8.cell? ⟨b6, 1, none⟩ = some (.int .i64 0) := (blk_cell Z6.out 1).trans rfl
        have c2_ : W8.cell? ⟨b6, 2, none⟩ = some (.int .i64 0) := (blk_cell Z6.out 2).trans rfl
        have c3_ : W8.cell? ⟨b6, 3, none⟩ = some (.slice none 0 0) := (blk_cell Z6.out 3).trans rfl
        have c4_ : W8.cell? ⟨b6, 4, none⟩ = some (.int .i64 0) := (blk_cell Z6.out 4).trans rfl
        have f0_ : W8.frozen? ⟨b6, 0, none⟩ = false := blk_frozen Z6.out 0
        have f1_ : W8.frozen? ⟨b6, 1, none⟩ = false := blk_frozen Z6.out 1
        have f2_ : W8.frozen? ⟨b6, 2, none⟩ = false := blk_frozen Z6.out 2
        have f3_ : W8.frozen? ⟨b6, 3, none⟩ = false := blk_frozen Z6.out 3
        have f4_ : W8.frozen? ⟨b6, 4, none⟩ = false := blk_frozen Z6.out 4
        refine skip_ (w1 := ?_) (by rfl) rfl ?_ ?_
        rotate_left
        · go_simp
          rfl
        clear c0_ c1_ c2_ c3_ c4_ f0_ f1_ f2_ f3_ f4_
        have hn_ := Lx.Hd.mk (belG HB.out L6.out (.string x.f0) (.int .i64 x.f1) (.int .i64 x.f2) (.slice Q3 x.f3.length e3) (.int .i64 x.f4))
        have X6 := Lx.Hd.mk (putG Z6.out (.string x.f0) (.int .i64 x.f1) (.int .i64 x.f2) (.slice Q3 x.f3.length e3) (.int .i64 x.f4))
        have z7_ := Lx.Hd.mk (farG Z7.out (Ne.symm HNE.out) (.string x.f0) (.int .i64 x.f1) (.int .i64 x.f2) (.slice Q3 x.f3.length e3) (.int .i64 x.f4))
        clear HB Z6 Z7
        have HB := hn_
        have Z7 := z7_
        clear hn_ z7_
        generalize (((((W8.setCell ⟨b6, 0, none⟩ (.string x.f0)).setCell ⟨b6, 1, none⟩ (.int .i64 x.f1)).setCell ⟨b6, 2, none⟩ (.int .i64 x.f2)).setCell ⟨b6, 3, none⟩ (.slice Q3 x.f3.length e3)).setCell ⟨b6, 4, none⟩ (.int .i64 x.f4)) = W9 at HB X6 Z7 ⊢
        refine hK.out _ _ (HF.out _ HB.out) (fun hHeld => ?_)
        clear hK K
        refine one_ (i := 13) (N := none) (fl 14 16383) rfl rfl (by kernel_rfl) (by decide) (fun K hK => ?_)
        have c0_ : W9.cell? ⟨b7, 0, none⟩ = some (.string ⟨#[]⟩) := (blk_cell Z7.out 0).trans rfl
        have c1_ : W9.cell? ⟨b7, 1, none⟩ = some (.int .i64 0) := (blk_cell Z7.out 1).trans rfl
        have c2_ : W9.cell? ⟨b7, 2, none⟩ = some (.int .i64 0) := (blk_cell Z7.out 2).trans rfl
        have c3_ : W9.cell? ⟨b7, 3, none⟩ = some (.slice none 0 0) := (blk_cell Z7.out 3).trans rfl
        have c4_ : W9.cell? ⟨b7, 4, none⟩ = some (.int .i64 0) := (blk_cell Z7.out 4).trans rfl
        have f0_ : W9.frozen? ⟨b7, 0, none⟩ = false := blk_frozen Z7.out 0
        have f1_ : W9.frozen? ⟨b7, 1, none⟩ = false := blk_frozen Z7.out 1
        have f2_ : W9.frozen? ⟨b7, 2, none⟩ = false := blk_frozen Z7.out 2
        have f3_ : W9.frozen? ⟨b7, 3, none⟩ = false := blk_frozen Z7.out 3
        have f4_ : W9.frozen? ⟨b7, 4, none⟩ = false := blk_frozen Z7.out 4
        refine skip_ (w1 := ?_) (by rfl) rfl ?_ ?_
        rotate_left
        · go_simp
          rfl
        clear c0_ c1_ c2_ c3_ c4_ f0_ f1_ f2_ f3_ f4_
        have hn_ := Lx.Hd.mk (belG HB.out L7.out (.string y.f0) (.int .i64 y.f1) (.int .i64 y.f2) (.slice R3 y.f3.length f3) (.int .i64 y.f4))
        have X7 := Lx.Hd.mk (putG Z7.out (.string y.f0) (.int .i64 y.f1) (.int .i64 y.f2) (.slice R3 y.f3.length f3) (.int .i64 y.f4))
        have x6_ := Lx.Hd.mk (farG X6.out HNE.out (.string y.f0) (.int .i64 y.f1) (.int .i64 y.f2) (.slice R3 y.f3.length f3) (.int .i64 y.f4))
        clear HB X6 Z7
        have HB := hn_
        have X6 := x6_
        clear hn_ x6_
        generalize (((((W9.setCell ⟨b7, 0, none⟩ (.string y.f0)).setCell ⟨b7, 1, none⟩ (.int .i64 y.f1)).setCell ⟨b7, 2, none⟩ (.int .i64 y.f2)).setCell ⟨b7, 3, none⟩ (.slice R3 y.f3.length f3)).setCell ⟨b7, 4, none⟩ (.int .i64 y.f4)) = W10 at HB X6 X7 ⊢
        refine hK.out _ _ (HF.out _ HB.out) (fun hHeld => ?_)
        clear hK K
        refine done_ (by kernel_rfl) ?_
        as_aux_lemma =>
          rename_i hHeld_
          clear hHeld_
          have BG6 := Lx.Hd.mk (bkG_of X6.out)
          have BG7 := Lx.Hd.mk (bkG_of X7.out)
          have HBg : Lx.Hd (Below W10.heap.size W10 W10) := Lx.Hd.mk (Below.refl _ _)
          have HBW := HB
          clear X6 X7 HF L6 L7 HNE
          obtain ⟨x0_, x1_, x2_, x3_, x4_⟩ := BG6.out _ HBg.out
          obtain ⟨y0_, y1_, y2_, y3_, y4_⟩ := BG7.out _ HBg.out
          cases s0 : x.f0.toList == y.f0.toList
          · as_aux_lemma =>
              go_wp2_with (fail)
              go_ret
              exact ⟨retb_eq (show false = X by rw [HXE.out, HD.out, show sameG x y = false by rw [sameG_eq]; simp [s0]]; simp), below_step HB0.out HB.out⟩
          by_cases s1 : x.f1 = y.f1
          rotate_left
          · as_aux_lemma =>
              go_wp2_with (fail)
              go_ret
              exact ⟨retb_eq (show false = X by rw [HXE.out, HD.out, show sameG x y = false by rw [sameG_eq]; simp [s1]]; simp), below_step HB0.out HB.out⟩
          by_cases s2 : x.f2 = y.f2
          rotate_left
          · as_aux_lemma =>
              go_wp2_with (fail)
              go_ret
              exact ⟨retb_eq (show false = X by rw [HXE.out, HD.out, show sameG x y = false by rw [sameG_eq]; simp [s2]]; simp), below_step HB0.out HB.out⟩
          by_cases s3 : x.f3.length = y.f3.length
          rotate_left
          · as_aux_lemma =>
              go_wp2_with (fail)
              go_ret
              exact ⟨retb_eq (show false = X by rw [HXE.out, HD.out, show sameG x y = false by rw [sameG_eq, show eqN x.f3 y.f3 = false from eqL_len _ _ _ s3]; simp]; simp), below_step HB0.out HB.out⟩
          as_aux_lemma =>
            have nx : x.f3.length ≤ 9223372036854775807 := HGX.out.1.2.1
            have HS := Lx.Hd.mk s3
            have ST : Lx.Hd ((x.f0.toList == y.f0.toList) = true ∧ (x.f1 == y.f1) = true ∧ (x.f2 == y.f2) = true) := Lx.Hd.mk ⟨s0, by simp [s1], by simp [s2]⟩
            go_wp2_with (fail)
            clear s0 s1 s2 s3
            go_loopw [8] (fun t8 wr => ∃ j : Nat, j ≤ x.f3.length ∧ t8 = .int .i64 j ∧ Lx.Hd (eqN x.f3 y.f3 = eqN (x.f3.drop j) (y.f3.drop j)) ∧ Lx.Hd (Below W10.heap.size W10 wr)) (fun t8 _ => x.f3.length - (intOf t8).toNat)
            case atStart => exact ⟨0, Nat.zero_le _, rfl, Lx.Hd.mk rfl, HBg⟩
            case round =>
              clear x0_ x1_ x2_ x3_ x4_ y0_ y1_ y2_ y3_ y4_ HBg
              obtain ⟨j, hj, rfl, HAJ, HBg⟩ := hrel
              obtain ⟨x0_, x1_, x2_, x3_, x4_⟩ := BG6.out _ HBg.out
              obtain ⟨y0_, y1_, y2_, y3_, y4_⟩ := BG7.out _ HBg.out
              by_cases hjl : j < x.f3.length
              · have hjq : j < y.f3.length := by have := HS.out; omega
                obtain ⟨a1, rfl, u0⟩ := Kd.at_int (show (Kd.int .u32).C W2 Q3 x.f3.length x.f3 from HGX.out.1) (j : Int) (by omega) (by omega)
                obtain ⟨a2, rfl, v0⟩ := Kd.at_int (show (Kd.int .u32).C W2 R3 y.f3.length y.f3 from HGX.out.2) (j : Int) (by omega) (by omega)
                have ej : rd x.f3 (j : Int) = x.f3[j] := by unfold rd; rw [Int.toNat_natCast, List.getD_eq_getElem?_getD, List.getElem?_eq_getElem hjl]; rfl
                have fj : rd y.f3 (j : Int) = y.f3[j] := by unfold rd; rw [Int.toNat_natCast, List.getD_eq_getElem?_getD, List.getElem?_eq_getElem hjq]; rfl
                rw [ej, Int.toNat_natCast] at u0
                rw [fj, Int.toNat_natCast] at v0
                have hE : eqN (x.f3.drop j) (y.f3.drop j) = (x.f3[j] == y.f3[j] && eqN (x.f3.drop (j + 1)) (y.f3.drop (j + 1))) := by rw [List.drop_eq_getElem_cons hjl, List.drop_eq_getElem_cons hjq]; rfl
                have HEJ := Lx.Hd.mk (HAJ.out.trans hE)
                clear hE HAJ ej fj
                generalize x.f3[j] = a at *
                generalize y.f3[j] = b at *
                have HFj : Lx.Hd (∀ w', Below W10.heap.size W10 w' → w'.cell? ⟨b6, 3, none⟩ = some (.slice (some a1) x.f3.length e3) ∧ w'.cell? ⟨b7, 3, none⟩ = some (.slice (some a2) y.f3.length f3) ∧ w'.cell? (a1.add j) = some (.int .u32 a) ∧ w'.cell? (a2.add j) = some (.int .u32 b)) := Lx.Hd.mk fun w' hb => ⟨(BG6.out _ hb).2.2.2.1, (BG7.out _ hb).2.2.2.1, pw_cell_below (below_step HBW.out hb) u0, pw_cell_below (below_step HBW.out hb) v0⟩
                clear u0 v0
                go_upto_region 12 with (fail)
                clear x0_ x1_ x2_ x3_ x4_ y0_ y1_ y2_ y3_ y4_
                by_cases hab : a = b
                rotate_left
                · have hab1 : (a != b) = true := by simp [hab]
                  have hab2 : (a == b) = false := by simp [hab]
                  have HAB := Lx.Hd.mk hab2
                  have HBd := Lx.Hd.mk (below_drew HBg.out)
                  refine start_ (n := 11) (S := fun w' => w'.cell? ⟨b6, 3, none⟩ = some (.slice (some a1) x.f3.length e3) ∧ w'.cell? ⟨b7, 3, none⟩ = some (.slice (some a2) y.f3.length f3) ∧ w'.cell? (a1.add j) = some (.int .u32 a) ∧ w'.cell? (a2.add j) = some (.int .u32 b)) (ds := []) (fl 11 0) (by kernel_rfl) rfl rfl ⟨(HFj.out _ HBd.out).1, (HFj.out _ HBd.out).2.1, (HFj.out _ HBd.out).2.2.1, (HFj.out _ HBd.out).2.2.2⟩ (fun hHeld => ?_)
                  clear HBg
                  have HBg := HBd
                  clear HBd
                  refine pu 0 (some 100) (fl 11 1) ?_
                  refine pu 2 (some 102) (fl 11 5) ?_
                  refine pu 5 (some 105) (fl 11 37) ?_
                  refine pu 7 (some 107) (fl 11 165) ?_
                  refine tk 1 (some 101) (fl 11 167) hHeld (hr := by rintro w' ⟨s0, s1, s2, s3⟩; go_simp; with_reducible rfl) (h := ?_)
                  refine pu 3 (some 103) (fl 11 175) ?_
                  refine tk 4 (some 104) (fl 11 191) hHeld (hr := by rintro w' ⟨s0, s1, s2, s3⟩; go_simp; with_reducible rfl) (h := ?_)
                  refine tk 6 (some 106) (fl 11 255) hHeld (hr := by rintro w' ⟨s0, s1, s2, s3⟩; go_simp; with_reducible rfl) (h := ?_)
                  refine pu 8 (some 108) (fl 11 511) ?_
                  refine tk 9 (some 109) (fl 11 1023) hHeld (hr := by rintro w' ⟨s0, s1, s2, s3⟩; go_simp; with_reducible rfl) (h := ?_)
                  refine pu 10 (some 110) (fl 11 2047) ?_
                  refine done_ (by kernel_rfl) ?_
                  go_wp2
                  go_ret
                  exact ⟨retb_eq (show false = X by rw [HXE.out, HD.out, show sameG x y = false by rw [sameG_eq, show eqN x.f3 y.f3 = false by rw [HEJ.out, HAB.out]; rfl]; simp]; simp), below_step HB0.out (below_step HBW.out HBg.out)⟩
                · subst hab
                  have HBd := Lx.Hd.mk (below_drew HBg.out)
                  refine start_ (n := 11) (S := fun w' => w'.cell? ⟨b6, 3, none⟩ = some (.slice (some a1) x.f3.length e3) ∧ w'.cell? ⟨b7, 3, none⟩ = some (.slice (some a2) y.f3.length f3) ∧ w'.cell? (a1.add j) = some (.int .u32 a) ∧ w'.cell? (a2.add j) = some (.int .u32 a)) (ds := []) (fl 11 0) (by kernel_rfl) rfl rfl ⟨(HFj.out _ HBd.out).1, (HFj.out _ HBd.out).2.1, (HFj.out _ HBd.out).2.2.1, (HFj.out _ HBd.out).2.2.2⟩ (fun hHeld => ?_)
                  clear HBg
                  have HBg := HBd
                  clear HBd
                  refine pu 0 (some 100) (fl 11 1) ?_
                  refine pu 2 (some 102) (fl 11 5) ?_
                  refine pu 5 (some 105) (fl 11 37) ?_
                  refine pu 7 (some 107) (fl 11 165) ?_
                  refine tk 1 (some 101) (fl 11 167) hHeld (hr := by rintro w' ⟨s0, s1, s2, s3⟩; go_simp; with_reducible rfl) (h := ?_)
                  refine pu 3 (some 103) (fl 11 175) ?_
                  refine tk 4 (some 104) (fl 11 191) hHeld (hr := by rintro w' ⟨s0, s1, s2, s3⟩; go_simp; with_reducible rfl) (h := ?_)
                  refine tk 6 (some 106) (fl 11 255) hHeld (hr := by rintro w' ⟨s0, s1, s2, s3⟩; go_simp; with_reducible rfl) (h := ?_)
                  refine pu 8 (some 108) (fl 11 511) ?_
                  refine tk 9 (some 109) (fl 11 1023) hHeld (hr := by rintro w' ⟨s0, s1, s2, s3⟩; go_simp; with_reducible rfl) (h := ?_)
                  refine pu 10 (some 110) (fl 11 2047) ?_
                  refine done_ (by kernel_rfl) ?_
                  go_wp2
                  exact ⟨⟨j + 1, hjl, by go_num, Lx.Hd.mk (by rw [HEJ.out]; simp), HBg⟩, by simp [intOf]; omega⟩
              have HEN : Lx.Hd (eqN x.f3 y.f3 = true) := Lx.Hd.mk (by rw [HAJ.out, show j = x.f3.length by omega, List.drop_length, HS.out, List.drop_length]; rfl)
              clear HAJ
              have hn_ := Lx.Hd.mk (below_step HBW.out HBg.out)
              clear HB
              have HB := hn_
              clear hn_
              go_wp2
              exact ⟨⟨i + 1, hlt, by go_num, Lx.Hd.mk (by rw [HD.out, show sameG x y = true by rw [sameG_eq, HEN.out, ST.out.1, ST.out.2.1, ST.out.2.2]; rfl, Bool.true_and]), HB⟩, by simp [intOf]; omega⟩
      have HE1 : Lx.Hd (eqL sameG p.f1 q.f1 = true) := Lx.Hd.mk (by rw [HAL.out, show i = p.f1.length by omega, List.drop_length, HN1.out, List.drop_length]; rfl)
      clear HAL
      go_wp2
      go_meet
      case rel => exact ⟨HE1, HB⟩
  case rest =>
    obtain ⟨HE1, HBc⟩ := hcut
    clear p0 p1 p2 p3 q0 q1 q2 q3 HB
    have HB := HBc
    clear HBc
    obtain ⟨p0, p1, p2, p3⟩ := BC1.out _ HB.out; obtain ⟨q0, q1, q2, q3⟩ := BC2.out _ HB.out
    go_upto_block 4 with (fail)
    go_cut [4, 9, 10, 11] (fun v4 v9 v10 v11 wc => Lx.Hd (eqL sameT p.f2 q.f2 = true) ∧ Lx.Hd (Below W2.heap.size W2 wc))
    case first =>
      rename_i Kq hKq Jq Kq1 hJq hKq1
      clear hKq
      go_wp2
      go_loopw [9] (fun t9 wr => ∃ i : Nat, i ≤ p.f2.length ∧ t9 = .int .i64 i ∧ Lx.Hd (eqL sameT p.f2 q.f2 = eqL sameT (p.f2.drop i) (q.f2.drop i)) ∧ Lx.Hd (Below W2.heap.size W2 wr)) (fun t9 _ => p.f2.length - (intOf t9).toNat)
      case atStart => exact ⟨0, Nat.zero_le _, rfl, Lx.Hd.mk rfl, HB⟩
      case round =>
        clear p0 p1 p2 p3 q0 q1 q2 q3 HB
        obtain ⟨i, hi, rfl, HAL, HB⟩ := hrel
        obtain ⟨p0, p1, p2, p3⟩ := BC1.out _ HB.out
        obtain ⟨q0, q1, q2, q3⟩ := BC2.out _ HB.out
        by_cases hlt : i < p.f2.length
        · have hlq : i < q.f2.length := by have := HN2.out; omega
          obtain ⟨ad1, rfl, g0, g1, g2, g3⟩ := at_T105 (show kT.C W2 A2 p.f2.length p.f2 from HR.out.1.2.1) i (by omega) (by omega)
          obtain ⟨ad2, rfl, h0, h1, h2, h3⟩ := at_T105 (show kT.C W2 B2 q.f2.length q.f2 from HR.out.2.2.1) i (by omega) (by omega)
          have ex : rd_T105 p.f2 i = p.f2[i] := by unfold rd_T105; rw [Int.toNat_natCast, List.getD_eq_getElem?_getD, List.getElem?_eq_getElem hlt]; rfl
          have ey : rd_T105 q.f2 i = q.f2[i] := by unfold rd_T105; rw [Int.toNat_natCast, List.getD_eq_getElem?_getD, List.getElem?_eq_getElem hlq]; rfl
          rw [ex] at g0 g1 g2 g3
          rw [ey] at h0 h1 h2 h3
          rw [Int.toNat_natCast] at g0 g1 g2 g3 h0 h1 h2 h3
          have hD : eqL sameT (p.f2.drop i) (q.f2.drop i) = (sameT p.f2[i] q.f2[i] && eqL sameT (p.f2.drop (i + 1)) (q.f2.drop (i + 1))) := by rw [List.drop_eq_getElem_cons hlt, List.drop_eq_getElem_cons hlq, eqL]
          have HD := Lx.Hd.mk (HAL.out.trans hD)
          clear hD HAL
          generalize p.f2[i] = x at *
          generalize q.f2[i] = y at *
          clear ex ey
          go_upto_region 17 with (fail)
          clear p0 p1 p2 p3 q0 q1 q2 q3
          have HF : Lx.Hd (∀ w', Below W2.heap.size W2 w' → TwoT w' bx bz ad1 ad2 i p q c2 d2 x y) := Lx.Hd.mk fun w' hb => ⟨(BC1.out _ hb).2.2.1, (BC2.out _ hb).2.2.1, pw_cell_below hb g0, pw_cell_below hb g1, pw_cell_below hb g2, pw_cell_below hb g3, pw_cell_below hb h0, pw_cell_below hb h1, pw_cell_below hb h2, pw_cell_below hb h3⟩
          clear g0 g1 g2 g3 h0 h1 h2 h3
          have HBd := Lx.Hd.mk (below_drew HB.out)
          refine start_ (n := 14) (S := fun w' => TwoT w' bx bz ad1 ad2 i p q c2 d2 x y) (ds := []) (fl 14 0) (by kernel_rfl) rfl rfl (HF.out _ HBd.out) (fun hHeld => ?_)
          clear HB
          have HB := HBd
          clear HBd
          obtain ⟨Wd, hWd⟩ : ∃ V, V = wr.drew := ⟨_, rfl⟩
          rw [← hWd] at HB hHeld ⊢
          clear hWd
          refine pu 0 (some 118) (fl 14 1) ?_
          refine pu 2 (some 120) (fl 14 5) ?_
          refine pu 5 (some 123) (fl 14 37) ?_
          refine pu 7 (some 125) (fl 14 165) ?_
          refine tk 1 (some 119) (fl 14 167) hHeld (hr := by rintro w' ⟨s0, s1, s2, s3, s4, s5, s6, s7, s8, s9⟩; go_simp; with_reducible rfl) (h := ?_)
          refine pu 3 (some 121) (fl 14 175) ?_
          refine tk 4 (some 122) (fl 14 191) hHeld (hr := by rintro w' ⟨s0, s1, s2, s3, s4, s5, s6, s7, s8, s9⟩; go_simp; with_reducible rfl) (h := ?_)
          refine tk 6 (some 124) (fl 14 255) hHeld (hr := by rintro w' ⟨s0, s1, s2, s3, s4, s5, s6, s7, s8, s9⟩; go_simp; with_reducible rfl) (h := ?_)
          refine pu 8 (some 126) (fl 14 511) ?_
          refine tk 9 (some 127) (fl 14 1023) hHeld (hr := by rintro w' ⟨s0, s1, s2, s3, s4, s5, s6, s7, s8, s9⟩; go_simp; with_reducible rfl) (h := ?_)
          refine join_ (σ := Nat × Nat) 2 (fl 14 4095) (fun s => [(10, .pointer (some ⟨s.1, 0, none⟩)), (11, .pointer (some ⟨s.2, 0, none⟩))]) (fun s w' => Below W2.heap.size W2 w' ∧ w'.heap[s.1]? = some (.cells #[.string ⟨#[]⟩, .bool false, .bool false, .int .i64 0] 105 (0, 0)) ∧ w'.heap[s.2]? = some (.cells #[.string ⟨#[]⟩, .bool false, .bool false, .int .i64 0] 105 (0, 0)) ∧ s.1 ≠ s.2 ∧ W2.heap.size ≤ s.1 ∧ W2.heap.size ≤ s.2) ?_ ?_
          rotate_left
          · intro hCont
            refine two_ (i := 10) (j := 11) (Ni := some 10) (Nj := some 11) (fl 14 2047) (fl 14 3071) rfl rfl rfl rfl (by kernel_rfl) (by decide) (by decide) (fun K hK => ?_) (fun K hK => ?_)
            · skip
              refine value_ (w1 := ?_) (v := ?_) (by rfl) rfl ?_ ?_
              rotate_left 2
              · go_simp
                constructor
                · rfl
                · rfl
              have HB1 : Lx.Hd (Below W2.heap.size W2 (Wd.alloc (.cells #[.string ⟨#[]⟩, .bool false, .bool false, .int .i64 0] 105))) := Lx.Hd.mk (below_alloc HB.out _)
              refine hK.out _ _ (HF.out _ HB1.out) (fun hHeld => ?_)
              clear hK K
              refine norm_ (a' := ?_) ?_ ?_
              rotate_left; · (show Act.put _ (some 10) _ = _; simp only [Act.put, List.setIfInBounds_toArray, List.set_cons_zero, List.set_cons_succ, i64_w, i32_w]; rfl)
              refine one_ (i := 11) (N := some 11) (fl 14 4095) rfl rfl (by kernel_rfl) (by decide) (fun K hK => ?_)
              refine value_ (w1 := ?_) (v := ?_) (by rfl) rfl ?_ ?_
              rotate_left 2
              · go_simp
                constructor
                · rfl
                · rfl
              have HB2 : Lx.Hd (Below W2.heap.size W2 ((Wd.alloc (.cells #[.string ⟨#[]⟩, .bool false, .bool false, .int .i64 0] 105)).alloc (.cells #[.string ⟨#[]⟩, .bool false, .bool false, .int .i64 0] 105))) := Lx.Hd.mk (below_alloc HB1.out _)
              refine hK.out _ _ (HF.out _ HB2.out) (fun hHeld => ?_)
              clear hK K
              refine norm_ (a' := ?_) ?_ ?_
              rotate_left; · (show Act.put _ (some 11) _ = _; simp only [Act.put, List.setIfInBounds_toArray, List.set_cons_zero, List.set_cons_succ, i64_w, i32_w]; rfl)
              exact norm_ (by simp only [putAll, Act.put, List.setIfInBounds_toArray, List.set_cons_zero, List.set_cons_succ]) (hCont (Wd.heap.size, Wd.heap.size + 1) _ ⟨HB2.out, (two_new W2 Wd (.cells #[.string ⟨#[]⟩, .bool false, .bool false, .int .i64 0] 105) HB.out).1, (two_new W2 Wd (.cells #[.string ⟨#[]⟩, .bool false, .bool false, .int .i64 0] 105) HB.out).2.1, (two_new W2 Wd (.cells #[.string ⟨#[]⟩, .bool false, .bool false, .int .i64 0] 105) HB.out).2.2.2.2.1, (two_new W2 Wd (.cells #[.string ⟨#[]⟩, .bool false, .bool false, .int .i64 0] 105) HB.out).2.2.1, (two_new W2 Wd (.cells #[.string ⟨#[]⟩, .bool false, .bool false, .int .i64 0] 105) HB.out).2.2.2.1⟩)
            · skip
              refine value_ (w1 := ?_) (v := ?_) (by rfl) rfl ?_ ?_
              rotate_left 2
              · go_simp
                constructor
                · rfl
                · rfl
              have HB1 : Lx.Hd (Below W2.heap.size W2 (Wd.alloc (.cells #[.string ⟨#[]⟩, .bool false, .bool false, .int .i64 0] 105))) := Lx.Hd.mk (below_alloc HB.out _)
              refine hK.out _ _ (HF.out _ HB1.out) (fun hHeld => ?_)
              clear hK K
              refine norm_ (a' := ?_) ?_ ?_
              rotate_left; · (show Act.put _ (some 11) _ = _; simp only [Act.put, List.setIfInBounds_toArray, List.set_cons_zero, List.set_cons_succ, i64_w, i32_w]; rfl)
              refine one_ (i := 10) (N := some 10) (fl 14 4095) rfl rfl (by kernel_rfl) (by decide) (fun K hK => ?_)
              refine value_ (w1 := ?_) (v := ?_) (by rfl) rfl ?_ ?_
              rotate_left 2
              · go_simp
                constructor
                · rfl
                · rfl
              have HB2 : Lx.Hd (Below W2.heap.size W2 ((Wd.alloc (.cells #[.string ⟨#[]⟩, .bool false, .bool false, .int .i64 0] 105)).alloc (.cells #[.string ⟨#[]⟩, .bool false, .bool false, .int .i64 0] 105))) := Lx.Hd.mk (below_alloc HB1.out _)
              refine hK.out _ _ (HF.out _ HB2.out) (fun hHeld => ?_)
              clear hK K
              refine norm_ (a' := ?_) ?_ ?_
              rotate_left; · (show Act.put _ (some 10) _ = _; simp only [Act.put, List.setIfInBounds_toArray, List.set_cons_zero, List.set_cons_succ, i64_w, i32_w]; rfl)
              exact norm_ (by simp only [putAll, Act.put, List.setIfInBounds_toArray, List.set_cons_zero, List.set_cons_succ]) (hCont (Wd.heap.size + 1, Wd.heap.size) _ ⟨HB2.out, (two_new W2 Wd (.cells #[.string ⟨#[]⟩, .bool false, .bool false, .int .i64 0] 105) HB.out).2.1, (two_new W2 Wd (.cells #[.string ⟨#[]⟩, .bool false, .bool false, .int .i64 0] 105) HB.out).1, (two_new W2 Wd (.cells #[.string ⟨#[]⟩, .bool false, .bool false, .int .i64 0] 105) HB.out).2.2.2.2.2, (two_new W2 Wd (.cells #[.string ⟨#[]⟩, .bool false, .bool false, .int .i64 0] 105) HB.out).2.2.2.1, (two_new W2 Wd (.cells #[.string ⟨#[]⟩, .bool false, .bool false, .int .i64 0] 105) HB.out).2.2.1⟩)
          clear HB hHeld
          rintro ⟨b6, b7⟩ W8 ⟨hB_, z6_, z7_, hne_, l6_, l7_⟩
          dsimp only at z6_ z7_ hne_ l6_ l7_
          have HB := Lx.Hd.mk hB_
          have Z6 := Lx.Hd.mk z6_
          have Z7 := Lx.Hd.mk z7_
          have HNE := Lx.Hd.mk hne_
          have L6 := Lx.Hd.mk l6_
          have L7 := Lx.Hd.mk l7_
          clear hB_ z6_ z7_ hne_ l6_ l7_
          have hHeld : TwoT W8 bx bz ad1 ad2 i p q c2 d2 x y := HF.out _ HB.out
          refine norm_ (a' := ?_) ?_ ?_
          rotate_left; · (simp only [putAll, Act.put, List.setIfInBounds_toArray, List.set_cons_zero, List.set_cons_succ]; rfl)
          refine one_ (i := 12) (N := none) (fl 14 8191) rfl rfl (by kernel_rfl) (by decide) (fun K hK => ?_)
          have c0_ : W8.cell? ⟨b6, 0, none⟩ = some (.string ⟨#[]⟩) := (blk_cell Z6.out 0).trans rfl
          have c1_ : W8.cell? ⟨b6, 1, none⟩ = some (.bool false) := (blk_cell Z6.out 1).trans rfl
          have c2_ : W8.cell? ⟨b6, 2, none⟩ = some (.bool false) := (blk_cell Z6.out 2).trans rfl
          have c3_ : W8.cell? ⟨b6, 3, none⟩ = some (.int .i64 0) := (blk_cell Z6.out 3).trans rfl
          have f0_ : W8.frozen? ⟨b6, 0, none⟩ = false := blk_frozen Z6.out 0
          have f1_ : W8.frozen? ⟨b6, 1, none⟩ = false := blk_frozen Z6.out 1
          have f2_ : W8.frozen? ⟨b6, 2, none⟩ = false := blk_frozen Z6.out 2
          have f3_ : W8.frozen? ⟨b6, 3, none⟩ = false := blk_frozen Z6.out 3
          refine skip_ (w1 := ?_) (by rfl) rfl ?_ ?_
          rotate_left
          · go_simp
            rfl
          clear c0_ c1_ c2_ c3_ f0_ f1_ f2_ f3_
          have hn_ := Lx.Hd.mk (belT HB.out L6.out (.string x.f0) (.bool x.f1) (.bool x.f2) (.int .i64 x.f3))
          have X6 := Lx.Hd.mk (putT Z6.out (.string x.f0) (.bool x.f1) (.bool x.f2) (.int .i64 x.f3))
          have z7_ := Lx.Hd.mk (farT Z7.out (Ne.symm HNE.out) (.string x.f0) (.bool x.f1) (.bool x.f2) (.int .i64 x.f3))
          clear HB Z6 Z7
          have HB := hn_
          have Z7 := z7_
          clear hn_ z7_
          generalize ((((W8.setCell ⟨b6, 0, none⟩ (.string x.f0)).setCell ⟨b6, 1, none⟩ (.bool x.f1)).setCell ⟨b6, 2, none⟩ (.bool x.f2)).setCell ⟨b6, 3, none⟩ (.int .i64 x.f3)) = W9 at HB X6 Z7 ⊢
          refine hK.out _ _ (HF.out _ HB.out) (fun hHeld => ?_)
          clear hK K
          refine one_ (i := 13) (N := none) (fl 14 16383) rfl rfl (by kernel_rfl) (by decide) (fun K hK => ?_)
          have c0_ : W9.cell? ⟨b7, 0, none⟩ = some (.string ⟨#[]⟩) := (blk_cell Z7.out 0).trans rfl
          have c1_ : W9.cell? ⟨b7, 1, none⟩ = some (.bool false) := (blk_cell Z7.out 1).trans rfl
          have c2_ : W9.cell? ⟨b7, 2, none⟩ = some (.bool false) := (blk_cell Z7.out 2).trans rfl
          have c3_ : W9.cell? ⟨b7, 3, none⟩ = some (.int .i64 0) := (blk_cell Z7.out 3).trans rfl
          have f0_ : W9.frozen? ⟨b7, 0, none⟩ = false := blk_frozen Z7.out 0
          have f1_ : W9.frozen? ⟨b7, 1, none⟩ = false := blk_frozen Z7.out 1
          have f2_ : W9.frozen? ⟨b7, 2, none⟩ = false := blk_frozen Z7.out 2
          have f3_ : W9.frozen? ⟨b7, 3, none⟩ = false := blk_frozen Z7.out 3
          refine skip_ (w1 := ?_) (by rfl) rfl ?_ ?_
          rotate_left
          · go_simp
            rfl
          clear c0_ c1_ c2_ c3_ f0_ f1_ f2_ f3_
          have hn_ := Lx.Hd.mk (belT HB.out L7.out (.string y.f0) (.bool y.f1) (.bool y.f2) (.int .i64 y.f3))
          have X7 := Lx.Hd.mk (putT Z7.out (.string y.f0) (.bool y.f1) (.bool y.f2) (.int .i64 y.f3))
          have x6_ := Lx.Hd.mk (farT X6.out HNE.out (.string y.f0) (.bool y.f1) (.bool y.f2) (.int .i64 y.f3))
          clear HB X6 Z7
          have HB := hn_
          have X6 := x6_
          clear hn_ x6_
          generalize ((((W9.setCell ⟨b7, 0, none⟩ (.string y.f0)).setCell ⟨b7, 1, none⟩ (.bool y.f1)).setCell ⟨b7, 2, none⟩ (.bool y.f2)).setCell ⟨b7, 3, none⟩ (.int .i64 y.f3)) = W10 at HB X6 X7 ⊢
          refine hK.out _ _ (HF.out _ HB.out) (fun hHeld => ?_)
          clear hK K
          refine done_ (by kernel_rfl) ?_
          as_aux_lemma =>
            rename_i hHeld_
            clear hHeld_
            have BG6 := Lx.Hd.mk (bkT_of X6.out)
            have BG7 := Lx.Hd.mk (bkT_of X7.out)
            have HBg : Lx.Hd (Below W10.heap.size W10 W10) := Lx.Hd.mk (Below.refl _ _)
            have HBW := HB
            clear X6 X7 HF L6 L7 HNE
            obtain ⟨x0_, x1_, x2_, x3_⟩ := BG6.out _ HBg.out
            obtain ⟨y0_, y1_, y2_, y3_⟩ := BG7.out _ HBg.out
            cases s0 : x.f0.toList == y.f0.toList
            · as_aux_lemma =>
                go_wp2_with (fail)
                go_ret
                exact ⟨retb_eq (show false = X by rw [HXE.out, HE1.out, HD.out, show sameT x y = false by rw [sameT_eq]; simp [s0]]; simp), below_step HB0.out HB.out⟩
            cases s1 : x.f1 == y.f1
            · as_aux_lemma =>
                go_wp2_with (fail)
                go_ret
                exact ⟨retb_eq (show false = X by rw [HXE.out, HE1.out, HD.out, show sameT x y = false by rw [sameT_eq]; simp [s1]]; simp), below_step HB0.out HB.out⟩
            cases s2 : x.f2 == y.f2
            · as_aux_lemma =>
                go_wp2_with (fail)
                go_ret
                exact ⟨retb_eq (show false = X by rw [HXE.out, HE1.out, HD.out, show sameT x y = false by rw [sameT_eq]; simp [s2]]; simp), below_step HB0.out HB.out⟩
            go_wp2
            exact ⟨⟨i + 1, hlt, by go_num, Lx.Hd.mk (by rw [HD.out, show sameT x y = true by rw [sameT_eq]; simp [s0, s1, s2], Bool.true_and]), HB⟩, by simp [intOf]; omega⟩
        have HE2 : Lx.Hd (eqL sameT p.f2 q.f2 = true) := Lx.Hd.mk (by rw [HAL.out, show i = p.f2.length by omega, List.drop_length, HN2.out, List.drop_length]; rfl)
        clear HAL
        go_wp2
        go_meet
        case rel => exact ⟨HE2, HB⟩
    case rest =>
      obtain ⟨HE2, HBc⟩ := hcut
      clear p0 p1 p2 p3 q0 q1 q2 q3 HB
      have HB := HBc
      clear HBc
      obtain ⟨p0, p1, p2, p3⟩ := BC1.out _ HB.out; obtain ⟨q0, q1, q2, q3⟩ := BC2.out _ HB.out
      go_wp2
      go_loopw [12] (fun t12 wr => ∃ i : Nat, i ≤ p.f3.length ∧ t12 = .int .i64 i ∧ Lx.Hd (eqL sameD p.f3 q.f3 = eqL sameD (p.f3.drop i) (q.f3.drop i)) ∧ Lx.Hd (Below W2.heap.size W2 wr)) (fun t12 _ => p.f3.length - (intOf t12).toNat)
      case atStart => exact ⟨0, Nat.zero_le _, rfl, Lx.Hd.mk rfl, HB⟩
      case round =>
        clear p0 p1 p2 p3 q0 q1 q2 q3 HB
        obtain ⟨i, hi, rfl, HAL, HB⟩ := hrel
        obtain ⟨p0, p1, p2, p3⟩ := BC1.out _ HB.out
        obtain ⟨q0, q1, q2, q3⟩ := BC2.out _ HB.out
        by_cases hlt : i < p.f3.length
        · have hlq : i < q.f3.length := by have := HN3.out; omega
          obtain ⟨ad1, Q2, e2, Q5, e5, rfl, g0, g1, g2, g3, g4, g5, g6, kx2, gx2, kx5, gx5⟩ := at_T49 (show kD.C W2 A3 p.f3.length p.f3 from HR.out.1.2.2.1) i (by omega) (by omega)
          obtain ⟨ad2, R2, f2, R5, f5, rfl, h0, h1, h2, h3, h4, h5, h6, ky2, gy2, ky5, gy5⟩ := at_T49 (show kD.C W2 B3 q.f3.length q.f3 from HR.out.2.2.2.1) i (by omega) (by omega)
          have ex : rd_T49 p.f3 i = p.f3[i] := by unfold rd_T49; rw [Int.toNat_natCast, List.getD_eq_getElem?_getD, List.getElem?_eq_getElem hlt]; rfl
          have ey : rd_T49 q.f3 i = q.f3[i] := by unfold rd_T49; rw [Int.toNat_natCast, List.getD_eq_getElem?_getD, List.getElem?_eq_getElem hlq]; rfl
          rw [ex] at g0 g1 g2 g3 g4 g5 g6 kx2 gx2 kx5 gx5
          rw [ey] at h0 h1 h2 h3 h4 h5 h6 ky2 gy2 ky5 gy5
          rw [Int.toNat_natCast] at g0 g1 g2 g3 g4 g5 g6 h0 h1 h2 h3 h4 h5 h6
          have hD : eqL sameD (p.f3.drop i) (q.f3.drop i) = (sameD p.f3[i] q.f3[i] && eqL sameD (p.f3.drop (i + 1)) (q.f3.drop (i + 1))) := by rw [List.drop_eq_getElem_cons hlt, List.drop_eq_getElem_cons hlq, eqL]
          have HD := Lx.Hd.mk (HAL.out.trans hD)
          clear hD HAL
          generalize p.f3[i] = x at *
          generalize q.f3[i] = y at *
          clear ex ey
          have HGX := Lx.Hd.mk (And.intro (And.intro gx2 gy2) (And.intro gx5 gy5))
          clear gx2 gy2 gx5 gy5
          go_upto_region 23 with (fail)
          clear p0 p1 p2 p3 q0 q1 q2 q3
          have HF : Lx.Hd (∀ w', Below W2.heap.size W2 w' → TwoD w' bx bz ad1 ad2 i p q c3 d3 x y Q2 Q5 e2 e5 R2 R5 f2 f5) := Lx.Hd.mk fun w' hb => ⟨(BC1.out _ hb).2.2.2, (BC2.out _ hb).2.2.2, pw_cell_below hb g0, pw_cell_below hb g1, pw_cell_below hb g2, pw_cell_below hb g3, pw_cell_below hb g4, pw_cell_below hb g5, pw_cell_below hb g6, pw_cell_below hb h0, pw_cell_below hb h1, pw_cell_below hb h2, pw_cell_below hb h3, pw_cell_below hb h4, pw_cell_below hb h5, pw_cell_below hb h6⟩
          clear g0 g1 g2 g3 g4 g5 g6 h0 h1 h2 h3 h4 h5 h6
          have HBd := Lx.Hd.mk (below_drew HB.out)
          refine start_ (n := 14) (S := fun w' => TwoD w' bx bz ad1 ad2 i p q c3 d3 x y Q2 Q5 e2 e5 R2 R5 f2 f5) (ds := []) (fl 14 0) (by kernel_rfl) rfl rfl (HF.out _ HBd.out) (fun hHeld => ?_)
          clear HB
          have HB := HBd
          clear HBd
          obtain ⟨Wd, hWd⟩ : ∃ V, V = wr.drew := ⟨_, rfl⟩
          rw [← hWd] at HB hHeld ⊢
          clear hWd
          refine pu 0 (some 154) (fl 14 1) ?_
          refine pu 2 (some 156) (fl 14 5) ?_
          refine pu 5 (some 159) (fl 14 37) ?_
          refine pu 7 (some 161) (fl 14 165) ?_
          refine tk 1 (some 155) (fl 14 167) hHeld (hr := by rintro w' ⟨s0, s1, s2, s3, s4, s5, s6, s7, s8, s9, s10, s11, s12, s13, s14, s15⟩; go_simp; with_reducible rfl) (h := ?_)
          refine pu 3 (some 157) (fl 14 175) ?_
          refine tk 4 (some 158) (fl 14 191) hHeld (hr := by rintro w' ⟨s0, s1, s2, s3, s4, s5, s6, s7, s8, s9, s10, s11, s12, s13, s14, s15⟩; go_simp; with_reducible rfl) (h := ?_)
          refine tk 6 (some 160) (fl 14 255) hHeld (hr := by rintro w' ⟨s0, s1, s2, s3, s4, s5, s6, s7, s8, s9, s10, s11, s12, s13, s14, s15⟩; go_simp; with_reducible rfl) (h := ?_)
          refine pu 8 (some 162) (fl 14 511) ?_
          refine tk 9 (some 163) (fl 14 1023) hHeld (hr := by rintro w' ⟨s0, s1, s2, s3, s4, s5, s6, s7, s8, s9, s10, s11, s12, s13, s14, s15⟩; go_simp; with_reducible rfl) (h := ?_)
          refine join_ (σ := Nat × Nat) 2 (fl 14 4095) (fun s => [(13, .pointer (some ⟨s.1, 0, none⟩)), (14, .pointer (some ⟨s.2, 0, none⟩))]) (fun s w' => Below W2.heap.size W2 w' ∧ w'.heap[s.1]? = some (.cells #[.int .i64 0, .string ⟨#[]⟩, .slice none 0 0, .int .i64 0, .int .i64 0, .slice none 0 0, .int .i64 0] 49 (0, 0)) ∧ w'.heap[s.2]? = some (.cells #[.int .i64 0, .string ⟨#[]⟩, .slice none 0 0, .int .i64 0, .int .i64 0, .slice none 0 0, .int .i64 0] 49 (0, 0)) ∧ s.1 ≠ s.2 ∧ W2.heap.size ≤ s.1 ∧ W2.heap.size ≤ s.2) ?_ ?_
          rotate_left
          · intro hCont
            refine two_ (i := 10) (j := 11) (Ni := some 13) (Nj := some 14) (fl 14 2047) (fl 14 3071) rfl rfl rfl rfl (by kernel_rfl) (by decide) (by decide) (fun K hK => ?_) (fun K hK => ?_)
            · skip
              refine value_ (w1 := ?_) (v := ?_) (by rfl) rfl ?_ ?_
              rotate_left 2
              · go_simp
                constructor
                · rfl
                · rfl
              have HB1 : Lx.Hd (Below W2.heap.size W2 (Wd.alloc (.cells #[.int .i64 0, .string ⟨#[]⟩, .slice none 0 0, .int .i64 0, .int .i64 0, .slice none 0 0, .int .i64 0] 49))) := Lx.Hd.mk (below_alloc HB.out _)
              refine hK.out _ _ (HF.out _ HB1.out) (fun hHeld => ?_)
              clear hK K
              refine norm_ (a' := ?_) ?_ ?_
              rotate_left; · (show Act.put _ (some 13) _ = _; simp only [Act.put, List.setIfInBounds_toArray, List.set_cons_zero, List.set_cons_succ, i64_w, i32_w]; rfl)
              refine one_ (i := 11) (N := some 14) (fl 14 4095) rfl rfl (by kernel_rfl) (by decide) (fun K hK => ?_)
              refine value_ (w1 := ?_) (v := ?_) (by rfl) rfl ?_ ?_
              rotate_left 2
              · go_simp
                constructor
                · rfl
                · rfl
              have HB2 : Lx.Hd (Below W2.heap.size W2 ((Wd.alloc (.cells #[.int .i64 0, .string ⟨#[]⟩, .slice none 0 0, .int .i64 0, .int .i64 0, .slice none 0 0, .int .i64 0] 49)).alloc (.cells #[.int .i64 0, .string ⟨#[]⟩, .slice none 0 0, .int .i64 0, .int .i64 0, .slice none 0 0, .int .i64 0] 49))) := Lx.Hd.mk (below_alloc HB1.out _)
              refine hK.out _ _ (HF.out _ HB2.out) (fun hHeld => ?_)
              clear hK K
              refine norm_ (a' := ?_) ?_ ?_
              rotate_left; · (show Act.put _ (some 14) _ = _; simp only [Act.put, List.setIfInBounds_toArray, List.set_cons_zero, List.set_cons_succ, i64_w, i32_w]; rfl)
              exact norm_ (by simp only [putAll, Act.put, List.setIfInBounds_toArray, List.set_cons_zero, List.set_cons_succ]) (hCont (Wd.heap.size, Wd.heap.size + 1) _ ⟨HB2.out, (two_new W2 Wd (.cells #[.int .i64 0, .string ⟨#[]⟩, .slice none 0 0, .int .i64 0, .int .i64 0, .slice none 0 0, .int .i64 0] 49) HB.out).1, (two_new W2 Wd (.cells #[.int .i64 0, .string ⟨#[]⟩, .slice none 0 0, .int .i64 0, .int .i64 0, .slice none 0 0, .int .i64 0] 49) HB.out).2.1, (two_new W2 Wd (.cells #[.int .i64 0, .string ⟨#[]⟩, .slice none 0 0, .int .i64 0, .int .i64 0, .slice none 0 0, .int .i64 0] 49) HB.out).2.2.2.2.1, (two_new W2 Wd (.cells #[.int .i64 0, .string ⟨#[]⟩, .slice none 0 0, .int .i64 0, .int .i64 0, .slice none 0 0, .int .i64 0] 49) HB.out).2.2.1, (two_new W2 Wd (.cells #[.int .i64 0, .string ⟨#[]⟩, .slice none 0 0, .int .i64 0, .int .i64 0, .slice none 0 0, .int .i64 0] 49) HB.out).2.2.2.1⟩)
            · skip
              refine value_ (w1 := ?_) (v := ?_) (by rfl) rfl ?_ ?_
              rotate_left 2
              · go_simp
                constructor
                · rfl
                · rfl
              have HB1 : Lx.Hd (Below W2.heap.size W2 (Wd.alloc (.cells #[.int .i64 0, .string ⟨#[]⟩, .slice none 0 0, .int .i64 0, .int .i64 0, .slice none 0 0, .int .i64 0] 49))) := Lx.Hd.mk (below_alloc HB.out _)
              refine hK.out _ _ (HF.out _ HB1.out) (fun hHeld => ?_)
              clear hK K
              refine norm_ (a' := ?_) ?_ ?_
              rotate_left; · (show Act.put _ (some 14) _ = _; simp only [Act.put, List.setIfInBounds_toArray, List.set_cons_zero, List.set_cons_succ, i64_w, i32_w]; rfl)
              refine one_ (i := 10) (N := some 13) (fl 14 4095) rfl rfl (by kernel_rfl) (by decide) (fun K hK => ?_)
              refine value_ (w1 := ?_) (v := ?_) (by rfl) rfl ?_ ?_
              rotate_left 2
              · go_simp
                constructor
                · rfl
                · rfl
              have HB2 : Lx.Hd (Below W2.heap.size W2 ((Wd.alloc (.cells #[.int .i64 0, .string ⟨#[]⟩, .slice none 0 0, .int .i64 0, .int .i64 0, .slice none 0 0, .int .i64 0] 49)).alloc (.cells #[.int .i64 0, .string ⟨#[]⟩, .slice none 0 0, .int .i64 0, .int .i64 0, .slice none 0 0, .int .i64 0] 49))) := Lx.Hd.mk (below_alloc HB1.out _)
              refine hK.out _ _ (HF.out _ HB2.out) (fun hHeld => ?_)
              clear hK K
              refine norm_ (a' := ?_) ?_ ?_
              rotate_left; · (show Act.put _ (some 13) _ = _; simp only [Act.put, List.setIfInBounds_toArray, List.set_cons_zero, List.set_cons_succ, i64_w, i32_w]; rfl)
              exact norm_ (by simp only [putAll, Act.put, List.setIfInBounds_toArray, List.set_cons_zero, List.set_cons_succ]) (hCont (Wd.heap.size + 1, Wd.heap.size) _ ⟨HB2.out, (two_new W2 Wd (.cells #[.int .i64 0, .string ⟨#[]⟩, .slice none 0 0, .int .i64 0, .int .i64 0, .slice none 0 0, .int .i64 0] 49) HB.out).2.1, (two_new W2 Wd (.cells #[.int .i64 0, .string ⟨#[]⟩, .slice none 0 0, .int .i64 0, .int .i64 0, .slice none 0 0, .int .i64 0] 49) HB.out).1, (two_new W2 Wd (.cells #[.int .i64 0, .string ⟨#[]⟩, .slice none 0 0, .int .i64 0, .int .i64 0, .slice none 0 0, .int .i64 0] 49) HB.out).2.2.2.2.2, (two_new W2 Wd (.cells #[.int .i64 0, .string ⟨#[]⟩, .slice none 0 0, .int .i64 0, .int .i64 0, .slice none 0 0, .int .i64 0] 49) HB.out).2.2.2.1, (two_new W2 Wd (.cells #[.int .i64 0, .string ⟨#[]⟩, .slice none 0 0, .int .i64 0, .int .i64 0, .slice none 0 0, .int .i64 0] 49) HB.out).2.2.1⟩)
          clear HB hHeld
          rintro ⟨b6, b7⟩ W8 ⟨hB_, z6_, z7_, hne_, l6_, l7_⟩
          dsimp only at z6_ z7_ hne_ l6_ l7_
          have HB := Lx.Hd.mk hB_
          have Z6 := Lx.Hd.mk z6_
          have Z7 := Lx.Hd.mk z7_
          have HNE := Lx.Hd.mk hne_
          have L6 := Lx.Hd.mk l6_
          have L7 := Lx.Hd.mk l7_
          clear hB_ z6_ z7_ hne_ l6_ l7_
          have hHeld : TwoD W8 bx bz ad1 ad2 i p q c3 d3 x y Q2 Q5 e2 e5 R2 R5 f2 f5 := HF.out _ HB.out
          refine norm_ (a' := ?_) ?_ ?_
          rotate_left; · (simp only [putAll, Act.put, List.setIfInBounds_toArray, List.set_cons_zero, List.set_cons_succ]; rfl)
          refine one_ (i := 12) (N := none) (fl 14 8191) rfl rfl (by kernel_rfl) (by decide) (fun K hK => ?_)
          have c0_ : W8.cell? ⟨b6, 0, none⟩ = some (.int .i64 0) := (blk_cell Z6.out 0).trans rfl
          have c1_ : W8.cell? ⟨b6, 1, none⟩ = some (.string ⟨#[]⟩) := (blk_cell Z6.out 1).trans rfl
          have c2_ : W8.cell? ⟨b6, 2, none⟩ = some (.slice none 0 0) := (blk_cell Z6.out 2).trans rfl
          have c3_ : W8.cell? ⟨b6, 3, none⟩ = some (.int .i64 0) := (blk_cell Z6.out 3).trans rfl
          have c4_ : W8.cell? ⟨b6, 4, none⟩ = some (.int .i64 0) := (blk_cell Z6.out 4).trans rfl
          have c5_ : W8.cell? ⟨b6, 5, none⟩ = some (.slice none 0 0) := (blk_cell Z6.out 5).trans rfl
          have c6_ : W8.cell? ⟨b6, 6, none⟩ = some (.int .i64 0) := (blk_cell Z6.out 6).trans rfl
          have f0_ : W8.frozen? ⟨b6, 0, none⟩ = false := blk_frozen Z6.out 0
          have f1_ : W8.frozen? ⟨b6, 1, none⟩ = false := blk_frozen Z6.out 1
          have f2_ : W8.frozen? ⟨b6, 2, none⟩ = false := blk_frozen Z6.out 2
          have f3_ : W8.frozen? ⟨b6, 3, none⟩ = false := blk_frozen Z6.out 3
          have f4_ : W8.frozen? ⟨b6, 4, none⟩ = false := blk_frozen Z6.out 4
          have f5_ : W8.frozen? ⟨b6, 5, none⟩ = false := blk_frozen Z6.out 5
          have f6_ : W8.frozen? ⟨b6, 6, none⟩ = false := blk_frozen Z6.out 6
          refine skip_ (w1 := ?_) (by rfl) rfl ?_ ?_
          rotate_left
          · go_simp
            rfl
          clear c0_ c1_ c2_ c3_ c4_ c5_ c6_ f0_ f1_ f2_ f3_ f4_ f5_ f6_
          have hn_ := Lx.Hd.mk (belD HB.out L6.out (.int .i64 x.f0) (.string x.f1) (.slice Q2 x.f2.length e2) (.int .i64 x.f3) (.int .i64 x.f4) (.slice Q5 x.f5.length e5) (.int .i64 x.f6))
          have X6 := Lx.Hd.mk (putD Z6.out (.int .i64 x.f0) (.string x.f1) (.slice Q2 x.f2.length e2) (.int .i64 x.f3) (.int .i64 x.f4) (.slice Q5 x.f5.length e5) (.int .i64 x.f6))
          have z7_ := Lx.Hd.mk (farD Z7.out (Ne.symm HNE.out) (.int .i64 x.f0) (.string x.f1) (.slice Q2 x.f2.length e2) (.int .i64 x.f3) (.int .i64 x.f4) (.slice Q5 x.f5.length e5) (.int .i64 x.f6))
          clear HB Z6 Z7
          have HB := hn_
          have Z7 := z7_
          clear hn_ z7_
          generalize (((((((W8.setCell ⟨b6, 0, none⟩ (.int .i64 x.f0)).setCell ⟨b6, 1, none⟩ (.string x.f1)).setCell ⟨b6, 2, none⟩ (.slice Q2 x.f2.length e2)).setCell ⟨b6, 3, none⟩ (.int .i64 x.f3)).setCell ⟨b6, 4, none⟩ (.int .i64 x.f4)).setCell ⟨b6, 5, none⟩ (.slice Q5 x.f5.length e5)).setCell ⟨b6, 6, none⟩ (.int .i64 x.f6)) = W9 at HB X6 Z7 ⊢
          refine hK.out _ _ (HF.out _ HB.out) (fun hHeld => ?_)
          clear hK K
          refine one_ (i := 13) (N := none) (fl 14 16383) rfl rfl (by kernel_rfl) (by decide) (fun K hK => ?_)
          have c0_ : W9.cell? ⟨b7, 0, none⟩ = some (.int .i64 0) := (blk_cell Z7.out 0).trans rfl
          have c1_ : W9.cell? ⟨b7, 1, none⟩ = some (.string ⟨#[]⟩) := (blk_cell Z7.out 1).trans rfl
          have c2_ : W9.cell? ⟨b7, 2, none⟩ = some (.slice none 0 0) := (blk_cell Z7.out 2).trans rfl
          have c3_ : W9.cell? ⟨b7, 3, none⟩ = some (.int .i64 0) := (blk_cell Z7.out 3).trans rfl
          have c4_ : W9.cell? ⟨b7, 4, none⟩ = some (.int .i64 0) := (blk_cell Z7.out 4).trans rfl
          have c5_ : W9.cell? ⟨b7, 5, none⟩ = some (.slice none 0 0) := (blk_cell Z7.out 5).trans rfl
          have c6_ : W9.cell? ⟨b7, 6, none⟩ = some (.int .i64 0) := (blk_cell Z7.out 6).trans rfl
          have f0_ : W9.frozen? ⟨b7, 0, none⟩ = false := blk_frozen Z7.out 0
          have f1_ : W9.frozen? ⟨b7, 1, none⟩ = false := blk_frozen Z7.out 1
          have f2_ : W9.frozen? ⟨b7, 2, none⟩ = false := blk_frozen Z7.out 2
          have f3_ : W9.frozen? ⟨b7, 3, none⟩ = false := blk_frozen Z7.out 3
          have f4_ : W9.frozen? ⟨b7, 4, none⟩ = false := blk_frozen Z7.out 4
          have f5_ : W9.frozen? ⟨b7, 5, none⟩ = false := blk_frozen Z7.out 5
          have f6_ : W9.frozen? ⟨b7, 6, none⟩ = false := blk_frozen Z7.out 6
          refine skip_ (w1 := ?_) (by rfl) rfl ?_ ?_
          rotate_left
          · go_simp
            rfl
          clear c0_ c1_ c2_ c3_ c4_ c5_ c6_ f0_ f1_ f2_ f3_ f4_ f5_ f6_
          have hn_ := Lx.Hd.mk (belD HB.out L7.out (.int .i64 y.f0) (.string y.f1) (.slice R2 y.f2.length f2) (.int .i64 y.f3) (.int .i64 y.f4) (.slice R5 y.f5.length f5) (.int .i64 y.f6))
          have X7 := Lx.Hd.mk (putD Z7.out (.int .i64 y.f0) (.string y.f1) (.slice R2 y.f2.length f2) (.int .i64 y.f3) (.int .i64 y.f4) (.slice R5 y.f5.length f5) (.int .i64 y.f6))
          have x6_ := Lx.Hd.mk (farD X6.out HNE.out (.int .i64 y.f0) (.string y.f1) (.slice R2 y.f2.length f2) (.int .i64 y.f3) (.int .i64 y.f4) (.slice R5 y.f5.length f5) (.int .i64 y.f6))
          clear HB X6 Z7
          have HB := hn_
          have X6 := x6_
          clear hn_ x6_
          generalize (((((((W9.setCell ⟨b7, 0, none⟩ (.int .i64 y.f0)).setCell ⟨b7, 1, none⟩ (.string y.f1)).setCell ⟨b7, 2, none⟩ (.slice R2 y.f2.length f2)).setCell ⟨b7, 3, none⟩ (.int .i64 y.f3)).setCell ⟨b7, 4, none⟩ (.int .i64 y.f4)).setCell ⟨b7, 5, none⟩ (.slice R5 y.f5.length f5)).setCell ⟨b7, 6, none⟩ (.int .i64 y.f6)) = W10 at HB X6 X7 ⊢
          refine hK.out _ _ (HF.out _ HB.out) (fun hHeld => ?_)
          clear hK K
          refine done_ (by kernel_rfl) ?_
          as_aux_lemma =>
            rename_i hHeld_
            clear hHeld_
            have BG6 := Lx.Hd.mk (bkD_of X6.out)
            have BG7 := Lx.Hd.mk (bkD_of X7.out)
            have HBg : Lx.Hd (Below W10.heap.size W10 W10) := Lx.Hd.mk (Below.refl _ _)
            have HBW := HB
            clear X6 X7 HF L6 L7 HNE
            obtain ⟨x0_, x1_, x2_, x3_, x4_, x5_, x6_⟩ := BG6.out _ HBg.out
            obtain ⟨y0_, y1_, y2_, y3_, y4_, y5_, y6_⟩ := BG7.out _ HBg.out
            have HSM : Lx.Hd (∀ a ∈ x.f5, ∀ b, SameAtSR a b) := Lx.Hd.mk fun a _ b => refSameStmt (deepS a) a (Nat.le_refl _) b
            by_cases s0 : x.f0 = y.f0
            rotate_left
            · as_aux_lemma =>
                go_wp2_with (fail)
                go_ret
                exact ⟨retb_eq (show false = X by rw [HXE.out, HE1.out, HE2.out, HD.out, show sameD x y = false by rw [sameD_eq]; simp [s0]]; simp), below_step HB0.out HB.out⟩
            cases s1 : x.f1.toList == y.f1.toList
            · as_aux_lemma =>
                go_wp2_with (fail)
                go_ret
                exact ⟨retb_eq (show false = X by rw [HXE.out, HE1.out, HE2.out, HD.out, show sameD x y = false by rw [sameD_eq]; simp [s1]]; simp), below_step HB0.out HB.out⟩
            by_cases s3 : x.f3 = y.f3
            rotate_left
            · as_aux_lemma =>
                go_wp2_with (fail)
                go_ret
                exact ⟨retb_eq (show false = X by rw [HXE.out, HE1.out, HE2.out, HD.out, show sameD x y = false by rw [sameD_eq]; simp [s3]]; simp), below_step HB0.out HB.out⟩
            by_cases s4 : x.f4 = y.f4
            rotate_left
            · as_aux_lemma =>
                go_wp2_with (fail)
                go_ret
                exact ⟨retb_eq (show false = X by rw [HXE.out, HE1.out, HE2.out, HD.out, show sameD x y = false by rw [sameD_eq]; simp [s4]]; simp), below_step HB0.out HB.out⟩
            by_cases s2 : x.f2.length = y.f2.length
            rotate_left
            · as_aux_lemma =>
                go_wp2_with (fail)
                go_ret
                exact ⟨retb_eq (show false = X by rw [HXE.out, HE1.out, HE2.out, HD.out, show sameD x y = false by rw [sameD_eq, show eqQ x.f2 y.f2 = false from eqL_len _ _ _ s2]; simp]; simp), below_step HB0.out HB.out⟩
            cases s5 : eqL sameS x.f5 y.f5
            · as_aux_lemma =>
                go_wp2_with (first | (go_at_call 89; (with_reducible refine (refSameStmts Q5 R5 e5 f5 x.f5 y.f5 _ ?s1 ?s2 HSM.out).mono ?_); (case s1 => exact Kd.C_below HGX.out.2.1 HB.out); (case s2 => exact Kd.C_below HGX.out.2.2 HB.out); rw [s5]; rintro r W12 ⟨rfl, hb⟩; replace HB := bst HB hb; replace HBg := bst HBg hb; clear hb; clear x0_ x1_ x2_ x3_ x4_ x5_ x6_ y0_ y1_ y2_ y3_ y4_ y5_ y6_; obtain ⟨x0_, x1_, x2_, x3_, x4_, x5_, x6_⟩ := BG6.out _ HBg.out; obtain ⟨y0_, y1_, y2_, y3_, y4_, y5_, y6_⟩ := BG7.out _ HBg.out) | fail)
                go_ret
                exact ⟨retb_eq (show false = X by rw [HXE.out, HE1.out, HE2.out, HD.out, show sameD x y = false by rw [sameD_eq]; simp [s5]]; simp), below_step HB0.out HB.out⟩
            as_aux_lemma =>
              have nx : x.f2.length ≤ 9223372036854775807 := HGX.out.1.1.2.1
              have HS := Lx.Hd.mk s2
              have ST : Lx.Hd ((x.f0 == y.f0) = true ∧ (x.f1.toList == y.f1.toList) = true ∧ (x.f3 == y.f3) = true ∧ (x.f4 == y.f4) = true ∧ eqL sameS x.f5 y.f5 = true) := Lx.Hd.mk ⟨by simp [s0], s1, by simp [s3], by simp [s4], s5⟩
              go_wp2_with (first | (go_at_call 89; (with_reducible refine (refSameStmts Q5 R5 e5 f5 x.f5 y.f5 _ ?s1 ?s2 HSM.out).mono ?_); (case s1 => exact Kd.C_below HGX.out.2.1 HB.out); (case s2 => exact Kd.C_below HGX.out.2.2 HB.out); rw [s5]; rintro r W12 ⟨rfl, hb⟩; replace HB := bst HB hb; replace HBg := bst HBg hb; clear hb; clear x0_ x1_ x2_ x3_ x4_ x5_ x6_ y0_ y1_ y2_ y3_ y4_ y5_ y6_; obtain ⟨x0_, x1_, x2_, x3_, x4_, x5_, x6_⟩ := BG6.out _ HBg.out; obtain ⟨y0_, y1_, y2_, y3_, y4_, y5_, y6_⟩ := BG7.out _ HBg.out) | fail)
              clear s0 s1 s2 s3 s4 s5
              go_loopw [15] (fun t15 wr => ∃ j : Nat, j ≤ x.f2.length ∧ t15 = .int .i64 j ∧ Lx.Hd (eqQ x.f2 y.f2 = eqQ (x.f2.drop j) (y.f2.drop j)) ∧ Lx.Hd (Below W10.heap.size W10 wr)) (fun t15 _ => x.f2.length - (intOf t15).toNat)
              case atStart => exact ⟨0, Nat.zero_le _, rfl, Lx.Hd.mk rfl, HBg⟩
              case round =>
                clear x0_ x1_ x2_ x3_ x4_ x5_ x6_ y0_ y1_ y2_ y3_ y4_ y5_ y6_ HBg
                obtain ⟨j, hj, rfl, HAJ, HBg⟩ := hrel
                obtain ⟨x0_, x1_, x2_, x3_, x4_, x5_, x6_⟩ := BG6.out _ HBg.out
                obtain ⟨y0_, y1_, y2_, y3_, y4_, y5_, y6_⟩ := BG7.out _ HBg.out
                by_cases hjl : j < x.f2.length
                · have hjq : j < y.f2.length := by have := HS.out; omega
                  obtain ⟨a1, rfl, u0, u1⟩ := at_T110 (show kQ.C W2 Q2 x.f2.length x.f2 from HGX.out.1.1) j (by omega) (by omega)
                  obtain ⟨a2, rfl, v0, v1⟩ := at_T110 (show kQ.C W2 R2 y.f2.length y.f2 from HGX.out.1.2) j (by omega) (by omega)
                  have ej : rd_T110 x.f2 j = x.f2[j] := by unfold rd_T110; rw [Int.toNat_natCast, List.getD_eq_getElem?_getD, List.getElem?_eq_getElem hjl]; rfl
                  have fj : rd_T110 y.f2 j = y.f2[j] := by unfold rd_T110; rw [Int.toNat_natCast, List.getD_eq_getElem?_getD, List.getElem?_eq_getElem hjq]; rfl
                  rw [ej, Int.toNat_natCast] at u0
                  rw [ej, Int.toNat_natCast] at u1
                  rw [fj, Int.toNat_natCast] at v0
                  rw [fj, Int.toNat_natCast] at v1
                  have hE : eqQ (x.f2.drop j) (y.f2.drop j) = ((x.f2[j].f0.toList == y.f2[j].f0.toList && x.f2[j].f1 == y.f2[j].f1) && eqQ (x.f2.drop (j + 1)) (y.f2.drop (j + 1))) := by rw [List.drop_eq_getElem_cons hjl, List.drop_eq_getElem_cons hjq]; rfl
                  have HEJ := Lx.Hd.mk (HAJ.out.trans hE)
                  clear hE HAJ ej fj
                  generalize x.f2[j] = a at *
                  generalize y.f2[j] = b at *
                  have HFj : Lx.Hd (∀ w', Below W10.heap.size W10 w' → w'.cell? ⟨b6, 2, none⟩ = some (.slice (some a1) x.f2.length e2) ∧ w'.cell? ⟨b7, 2, none⟩ = some (.slice (some a2) y.f2.length f2) ∧ w'.cell? (a1.add (j * 2)) = some (.string a.f0) ∧ w'.cell? ⟨(a1.add (j * 2)).block, (a1.add (j * 2)).off + 1, none⟩ = some (.int .i64 a.f1) ∧ w'.cell? (a2.add (j * 2)) = some (.string b.f0) ∧ w'.cell? ⟨(a2.add (j * 2)).block, (a2.add (j * 2)).off + 1, none⟩ = some (.int .i64 b.f1)) := Lx.Hd.mk fun w' hb => ⟨(BG6.out _ hb).2.2.1, (BG7.out _ hb).2.2.1, pw_cell_below (below_step HBW.out hb) u0, pw_cell_below (below_step HBW.out hb) u1, pw_cell_below (below_step HBW.out hb) v0, pw_cell_below (below_step HBW.out hb) v1⟩
                  clear u0 u1 v0 v1
                  go_upto_region 29 with (fail)
                  clear x0_ x1_ x2_ x3_ x4_ x5_ x6_ y0_ y1_ y2_ y3_ y4_ y5_ y6_
                  by_cases ha0 : a.f0.toList = b.f0.toList
                  rotate_left
                  · have HAB : Lx.Hd ((a.f0.toList == b.f0.toList && a.f1 == b.f1) = false) := Lx.Hd.mk (by simp [ha0])
                    have HBd := Lx.Hd.mk (below_drew HBg.out)
                    refine start_ (n := 11) (S := fun w' => w'.cell? ⟨b6, 2, none⟩ = some (.slice (some a1) x.f2.length e2) ∧ w'.cell? ⟨b7, 2, none⟩ = some (.slice (some a2) y.f2.length f2) ∧ w'.cell? (a1.add (j * 2)) = some (.string a.f0) ∧ w'.cell? ⟨(a1.add (j * 2)).block, (a1.add (j * 2)).off + 1, none⟩ = some (.int .i64 a.f1) ∧ w'.cell? (a2.add (j * 2)) = some (.string b.f0) ∧ w'.cell? ⟨(a2.add (j * 2)).block, (a2.add (j * 2)).off + 1, none⟩ = some (.int .i64 b.f1)) (ds := []) (fl 11 0) (by kernel_rfl) rfl rfl ⟨(HFj.out _ HBd.out).1, (HFj.out _ HBd.out).2.1, (HFj.out _ HBd.out).2.2.1, (HFj.out _ HBd.out).2.2.2.1, (HFj.out _ HBd.out).2.2.2.2.1, (HFj.out _ HBd.out).2.2.2.2.2⟩ (fun hHeld => ?_)
                    clear HBg
                    have HBg := HBd
                    clear HBd
                    refine pu 0 (some 214) (fl 11 1) ?_
                    refine pu 2 (some 216) (fl 11 5) ?_
                    refine pu 5 (some 219) (fl 11 37) ?_
                    refine pu 7 (some 221) (fl 11 165) ?_
                    refine tk 1 (some 215) (fl 11 167) hHeld (hr := by rintro w' ⟨s0, s1, s2, s3, s4, s5⟩; go_simp; with_reducible rfl) (h := ?_)
                    refine pu 3 (some 217) (fl 11 175) ?_
                    refine tk 4 (some 218) (fl 11 191) hHeld (hr := by rintro w' ⟨s0, s1, s2, s3, s4, s5⟩; go_simp; with_reducible rfl) (h := ?_)
                    refine tk 6 (some 220) (fl 11 255) hHeld (hr := by rintro w' ⟨s0, s1, s2, s3, s4, s5⟩; go_simp; with_reducible rfl) (h := ?_)
                    refine pu 8 (some 222) (fl 11 511) ?_
                    refine tk 9 (some 223) (fl 11 1023) hHeld (hr := by rintro w' ⟨s0, s1, s2, s3, s4, s5⟩; go_simp; with_reducible rfl) (h := ?_)
                    refine pu 10 (some 224) (fl 11 2047) ?_
                    refine done_ (by kernel_rfl) ?_
                    go_wp2
                    go_ret
                    exact ⟨retb_eq (show false = X by rw [HXE.out, HE1.out, HE2.out, HD.out, show sameD x y = false by rw [sameD_eq, show eqQ x.f2 y.f2 = false by rw [HEJ.out, HAB.out]; rfl]; simp]; simp), below_step HB0.out (below_step HBW.out HBg.out)⟩
                  by_cases ha1 : a.f1 = b.f1
                  rotate_left
                  · have HAB : Lx.Hd ((a.f0.toList == b.f0.toList && a.f1 == b.f1) = false) := Lx.Hd.mk (by simp [ha1])
                    have HBd := Lx.Hd.mk (below_drew HBg.out)
                    refine start_ (n := 11) (S := fun w' => w'.cell? ⟨b6, 2, none⟩ = some (.slice (some a1) x.f2.length e2) ∧ w'.cell? ⟨b7, 2, none⟩ = some (.slice (some a2) y.f2.length f2) ∧ w'.cell? (a1.add (j * 2)) = some (.string a.f0) ∧ w'.cell? ⟨(a1.add (j * 2)).block, (a1.add (j * 2)).off + 1, none⟩ = some (.int .i64 a.f1) ∧ w'.cell? (a2.add (j * 2)) = some (.string b.f0) ∧ w'.cell? ⟨(a2.add (j * 2)).block, (a2.add (j * 2)).off + 1, none⟩ = some (.int .i64 b.f1)) (ds := []) (fl 11 0) (by kernel_rfl) rfl rfl ⟨(HFj.out _ HBd.out).1, (HFj.out _ HBd.out).2.1, (HFj.out _ HBd.out).2.2.1, (HFj.out _ HBd.out).2.2.2.1, (HFj.out _ HBd.out).2.2.2.2.1, (HFj.out _ HBd.out).2.2.2.2.2⟩ (fun hHeld => ?_)
                    clear HBg
                    have HBg := HBd
                    clear HBd
                    refine pu 0 (some 214) (fl 11 1) ?_
                    refine pu 2 (some 216) (fl 11 5) ?_
                    refine pu 5 (some 219) (fl 11 37) ?_
                    refine pu 7 (some 221) (fl 11 165) ?_
                    refine tk 1 (some 215) (fl 11 167) hHeld (hr := by rintro w' ⟨s0, s1, s2, s3, s4, s5⟩; go_simp; with_reducible rfl) (h := ?_)
                    refine pu 3 (some 217) (fl 11 175) ?_
                    refine tk 4 (some 218) (fl 11 191) hHeld (hr := by rintro w' ⟨s0, s1, s2, s3, s4, s5⟩; go_simp; with_reducible rfl) (h := ?_)
                    refine tk 6 (some 220) (fl 11 255) hHeld (hr := by rintro w' ⟨s0, s1, s2, s3, s4, s5⟩; go_simp; with_reducible rfl) (h := ?_)
                    refine pu 8 (some 222) (fl 11 511) ?_
                    refine tk 9 (some 223) (fl 11 1023) hHeld (hr := by rintro w' ⟨s0, s1, s2, s3, s4, s5⟩; go_simp; with_reducible rfl) (h := ?_)
                    refine pu 10 (some 224) (fl 11 2047) ?_
                    refine done_ (by kernel_rfl) ?_
                    go_wp2
                    go_ret
                    exact ⟨retb_eq (show false = X by rw [HXE.out, HE1.out, HE2.out, HD.out, show sameD x y = false by rw [sameD_eq, show eqQ x.f2 y.f2 = false by rw [HEJ.out, HAB.out]; rfl]; simp]; simp), below_step HB0.out (below_step HBW.out HBg.out)⟩
                  · have HAB : Lx.Hd ((a.f0.toList == b.f0.toList && a.f1 == b.f1) = true) := Lx.Hd.mk (by simp [ha0, ha1])
                    have HBd := Lx.Hd.mk (below_drew HBg.out)
                    refine start_ (n := 11) (S := fun w' => w'.cell? ⟨b6, 2, none⟩ = some (.slice (some a1) x.f2.length e2) ∧ w'.cell? ⟨b7, 2, none⟩ = some (.slice (some a2) y.f2.length f2) ∧ w'.cell? (a1.add (j * 2)) = some (.string a.f0) ∧ w'.cell? ⟨(a1.add (j * 2)).block, (a1.add (j * 2)).off + 1, none⟩ = some (.int .i64 a.f1) ∧ w'.cell? (a2.add (j * 2)) = some (.string b.f0) ∧ w'.cell? ⟨(a2.add (j * 2)).block, (a2.add (j * 2)).off + 1, none⟩ = some (.int .i64 b.f1)) (ds := []) (fl 11 0) (by kernel_rfl) rfl rfl ⟨(HFj.out _ HBd.out).1, (HFj.out _ HBd.out).2.1, (HFj.out _ HBd.out).2.2.1, (HFj.out _ HBd.out).2.2.2.1, (HFj.out _ HBd.out).2.2.2.2.1, (HFj.out _ HBd.out).2.2.2.2.2⟩ (fun hHeld => ?_)
                    clear HBg
                    have HBg := HBd
                    clear HBd
                    refine pu 0 (some 214) (fl 11 1) ?_
                    refine pu 2 (some 216) (fl 11 5) ?_
                    refine pu 5 (some 219) (fl 11 37) ?_
                    refine pu 7 (some 221) (fl 11 165) ?_
                    refine tk 1 (some 215) (fl 11 167) hHeld (hr := by rintro w' ⟨s0, s1, s2, s3, s4, s5⟩; go_simp; with_reducible rfl) (h := ?_)
                    refine pu 3 (some 217) (fl 11 175) ?_
                    refine tk 4 (some 218) (fl 11 191) hHeld (hr := by rintro w' ⟨s0, s1, s2, s3, s4, s5⟩; go_simp; with_reducible rfl) (h := ?_)
                    refine tk 6 (some 220) (fl 11 255) hHeld (hr := by rintro w' ⟨s0, s1, s2, s3, s4, s5⟩; go_simp; with_reducible rfl) (h := ?_)
                    refine pu 8 (some 222) (fl 11 511) ?_
                    refine tk 9 (some 223) (fl 11 1023) hHeld (hr := by rintro w' ⟨s0, s1, s2, s3, s4, s5⟩; go_simp; with_reducible rfl) (h := ?_)
                    refine pu 10 (some 224) (fl 11 2047) ?_
                    refine done_ (by kernel_rfl) ?_
                    go_wp2
                    exact ⟨⟨j + 1, hjl, by go_num, Lx.Hd.mk (by rw [HEJ.out, HAB.out]; rfl), HBg⟩, by simp [intOf]; omega⟩
                have HEN : Lx.Hd (eqQ x.f2 y.f2 = true) := Lx.Hd.mk (by rw [HAJ.out, show j = x.f2.length by omega, List.drop_length, HS.out, List.drop_length]; rfl)
                clear HAJ
                have hn_ := Lx.Hd.mk (below_step HBW.out HBg.out)
                clear HB
                have HB := hn_
                clear hn_
                go_wp2
                exact ⟨⟨i + 1, hlt, by go_num, Lx.Hd.mk (by rw [HD.out, show sameD x y = true by rw [sameD_eq, HEN.out, ST.out.1, ST.out.2.1, ST.out.2.2.1, ST.out.2.2.2.1, ST.out.2.2.2.2]; rfl, Bool.true_and]), HB⟩, by simp [intOf]; omega⟩
        have HE3 : Lx.Hd (eqL sameD p.f3 q.f3 = true) := Lx.Hd.mk (by rw [HAL.out, show i = p.f3.length by omega, List.drop_length, HN3.out, List.drop_length]; rfl)
        clear HAL
        go_wp2
        go_ret
        exact ⟨retb_eq (show true = X by rw [HXE.out, HE1.out, HE2.out, HE3.out]; rfl), below_step HB0.out HB.out⟩
end Go.Proofs.YtgkhpecllhiidaaDoor.A
