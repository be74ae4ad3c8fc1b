/- Package ast: CheckExpr and CheckStmt. -/
import Derived.Test.YtgkhpecllhiidaaDoorAo
set_option linter.unusedVariables false
set_option linter.unusedSimpArgs false
namespace Go.Proofs.YtgkhpecllhiidaaDoor.A
open Go.RowKit Go.Shelf Go.Proofs.YtgkhpecllhiidaaDoor.As Go.Proofs.YtgkhpecllhiidaaDoorW.PrintWords Go.Proofs.YtgkhpecllhiidaaDoorW.PrintLast Go.Proofs.YtgkhpecllhiidaaDoorW.PrintMore

/-- check, of a row of one node that has just been laid down. -/
theorem check_one (x : Nd) (w W1 : World) (hB : Below w.heap.size w W1) (hG : Keys w) (p q : Option Addr) (hN : NdAt W1 (.agg #[.pointer p, .pointer q]) x) (hs : x.size < 4611686018427387904) (hd : x.deep < 4611686018427387904) (hP : AllN szN x) :
    Calls Tryd.prog 59 #[.slice (some ⟨W1.heap.size, 0, none⟩) 1 1] (W1.alloc (.cells #[.pointer p, .pointer q] 85)) fun r w' => r = .returned (.int .i64 (checkN [x])) ∧ Below w.heap.size w w' := by
  have hb1 : Below W1.heap.size W1 (W1.alloc (.cells #[.pointer p, .pointer q] 85)) := (Below.refl _ W1).alloc (Nat.le_refl _) _
  have hb2 := hB.trans (hb1.mono hB.size)
  have hn2 := cells_new2 W1 (.pointer p) (.pointer q) 85
  refine (check_any (some ⟨W1.heap.size, 0, none⟩) 1 [x] _ (Keys.below hG hb2) ⟨by simp, ?_⟩ ?_ ?_ ?_).mono ?_
  · intro i hi
    have h0 : i = 0 := by simp at hi; exact hi
    subst h0
    refine ⟨_, p, q, rfl, ?_, ?_, hN.below hb1⟩
    · rw [add_plain]; exact hn2.1
    · rw [add_plain]; exact hn2.2
  · show sizes [x] < _
    have : sizes [x] = x.size := by unfold sizes; simp
    omega
  · intro y hy; obtain rfl := List.mem_singleton.1 hy; exact hd
  · intro y hy; obtain rfl := List.mem_singleton.1 hy; exact hP
  · rintro r w' ⟨rfl, hb⟩
    exact ⟨rfl, hb2.trans (hb.mono hb2.size)⟩

set_option maxRecDepth 100000 in
set_option maxHeartbeats 4000000 in
theorem checkExpr_any (e : SE) (A : Option Addr) (c : Nat) (w : World) (hG : Keys w) (hC : kE.C w A e.f5.length e.f5) (hl : e.f5.length ≤ c) (hs : (Nd.ex e).size < 4611686018427387904) (hd : (Nd.ex e).deep < 4611686018427387904) (hP : AllN szN (.ex e)) :
    Calls Tryd.prog 16 #[.agg #[.int .i64 e.f0, .int .i64 e.f1, .int .i64 e.f2, .int .u32 e.f3, .string e.f4, .slice A e.f5.length c]] w fun r w' => r = .returned (.int .i64 (checkN [.ex e])) ∧ Below w.heap.size w w' := by
  have HG := Lx.Hd.mk hG
  have HC := Lx.Hd.mk hC
  clear hG hC
  go_enter Tryd.func16, Tryd.ntmps16
  go_upto_region 1 with (fail)
  refine name_world fun W1 hW1 => ?_
  have hh : W1.heap[w.heap.size]? = some (.cells #[.int .i64 e.f0, .int .i64 e.f1, .int .i64 e.f2, .int .u32 e.f3, .string e.f4, .slice A e.f5.length c] 25 (0, 0)) := by rw [hW1]; exact World.alloc_heap_new w _
  have hz : W1.heap.size = w.heap.size + 1 := by rw [hW1]; simp
  have HB1 : Lx.Hd (Below w.heap.size w W1) := Lx.Hd.mk (by rw [hW1]; exact (Below.refl _ w).alloc (Nat.le_refl _) _)
  clear hW1
  have hp : PtAt kE W1 ⟨w.heap.size, 0, none⟩ e := by
    refine ⟨_, k25_mk W1 e hl (Kd.C_below HC.out HB1.out), ?_⟩
    intro j u hj
    have hj5 : j < 6 := by have := (List.getElem?_eq_some_iff.1 hj).1; simpa using this
    rw [add_plain]
    have : j = 0 ∨ j = 1 ∨ j = 2 ∨ j = 3 ∨ j = 4 ∨ j = 5 := by omega
    rcases this with rfl | rfl | rfl | rfl | rfl | rfl <;> (obtain rfl := Option.some.inj hj; unfold World.cell?; rw [hh]; rfl)
  have HP := Lx.Hd.mk hp
  clear hp hh
  have H := Lx.Hd.mk (check_one (.ex e) w W1 HB1.out HG.out _ _ ⟨_, rfl, HP.out⟩ hs hd hP)
  rw [hz] at H
  go_wp2_with (go_at_call 59; refine H.out.mono ?_; rintro r W2 ⟨rfl, hb⟩; have HB2 := Lx.Hd.mk hb; clear hb)
  go_ret
  exact ⟨rfl, HB2.out⟩

set_option maxRecDepth 100000 in
set_option maxHeartbeats 4000000 in
theorem checkStmt_any (s : SS) (A5 A6 A7 A8 A9 : Option Addr) (c5 c6 c7 c8 c9 : Nat) (w : World) (hG : Keys w) (h5 : Kd.string.C w A5 s.f5.length s.f5) (h6 : kE.C w A6 s.f6.length s.f6) (h7 : kE.C w A7 s.f7.length s.f7) (h8 : kS.C w A8 s.f8.length s.f8) (h9 : kS.C w A9 s.f9.length s.f9)
    (l5 : s.f5.length ≤ c5) (l6 : s.f6.length ≤ c6) (l7 : s.f7.length ≤ c7) (l8 : s.f8.length ≤ c8) (l9 : s.f9.length ≤ c9) (hs : (Nd.st s).size < 4611686018427387904) (hd : (Nd.st s).deep < 4611686018427387904) (hP : AllN szN (.st s)) :
    Calls Tryd.prog 22 #[.agg #[.int .i64 s.f0, .int .i64 s.f1, .int .i64 s.f2, .int .i64 s.f3, .string s.f4, .slice A5 s.f5.length c5, .slice A6 s.f6.length c6, .slice A7 s.f7.length c7, .slice A8 s.f8.length c8, .slice A9 s.f9.length c9]] w fun r w' => r = .returned (.int .i64 (checkN [.st s])) ∧ Below w.heap.size w w' := by
  have HG := Lx.Hd.mk hG
  have HC := Lx.Hd.mk (And.intro h5 (And.intro h6 (And.intro h7 (And.intro h8 h9))))
  clear hG h5 h6 h7 h8 h9
  go_enter Tryd.func22, Tryd.ntmps22
  go_upto_region 1 with (fail)
  refine name_world fun W1 hW1 => ?_
  have hh : W1.heap[w.heap.size]? = some (.cells #[.int .i64 s.f0, .int .i64 s.f1, .int .i64 s.f2, .int .i64 s.f3, .string s.f4, .slice A5 s.f5.length c5, .slice A6 s.f6.length c6, .slice A7 s.f7.length c7, .slice A8 s.f8.length c8, .slice A9 s.f9.length c9] 38 (0, 0)) := by rw [hW1]; exact World.alloc_heap_new w _
  have hz : W1.heap.size = w.heap.size + 1 := by rw [hW1]; simp
  have HB1 : Lx.Hd (Below w.heap.size w W1) := Lx.Hd.mk (by rw [hW1]; exact (Below.refl _ w).alloc (Nat.le_refl _) _)
  clear hW1
  have hp : PtAt kS W1 ⟨w.heap.size, 0, none⟩ s := by
    obtain ⟨h5, h6, h7, h8, h9⟩ := HC.out
    refine ⟨_, k38_mk W1 s l5 (Kd.C_below h5 HB1.out) l6 (Kd.C_below h6 HB1.out) l7 (Kd.C_below h7 HB1.out) l8 (Kd.C_below h8 HB1.out) l9 (Kd.C_below h9 HB1.out), ?_⟩
    intro j u hj
    have hj5 : j < 10 := by have := (List.getElem?_eq_some_iff.1 hj).1; simpa using this
    rw [add_plain]
    have : j = 0 ∨ j = 1 ∨ j = 2 ∨ j = 3 ∨ j = 4 ∨ j = 5 ∨ j = 6 ∨ j = 7 ∨ j = 8 ∨ j = 9 := by omega
    rcases this with rfl | rfl | rfl | rfl | rfl | rfl | rfl | rfl | rfl | rfl <;> (obtain rfl := Option.some.inj hj; unfold World.cell?; rw [hh]; rfl)
  have HP := Lx.Hd.mk hp
  clear hp hh
  have H := Lx.Hd.mk (check_one (.st s) w W1 HB1.out HG.out _ _ ⟨_, rfl, HP.out⟩ hs hd hP)
  rw [hz] at H
  go_wp2_with (go_at_call 59; refine H.out.mono ?_; rintro r W2 ⟨rfl, hb⟩; have HB2 := Lx.Hd.mk hb; clear hb)
  go_ret
  exact ⟨rfl, HB2.out⟩
end Go.Proofs.YtgkhpecllhiidaaDoor.A
