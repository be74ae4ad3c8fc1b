/- Parse: what is deferred: catch, and the closure of Expr. -/
import Derived.Test.YtnjnadlgndjnbaaDoorYKl
import Derived.Recover
section
set_option linter.unusedVariables false
set_option linter.unusedSimpArgs false
namespace Go.Proofs.YtnjnadlgndjnbaaDoor.Pk
open Go.RowKit Go.Proofs.YtnjnadlgndjnbaaDoorW.PrintWords Go.Proofs.YtnjnadlgndjnbaaDoorW.PrintLast Go.Proofs.YtnjnadlgndjnbaaDoorW.PrintMore Go.Proofs.YtnjnadlgndjnbaaDoor.Lx
@[reducible] def fltC (f : Flt) : Array Value := #[.int .i64 f.1, .int .i64 f.2.1, .int .i64 f.2.2]
theorem cellsF {W : World} {b : Nat} {t : TypeId} {v0 v1 v2 : Value} (h : W.heap[b]? = some (.cells #[v0, v1, v2] t (0, 0))) :
    (W.cell? ⟨b, 0, none⟩ = some v0 ∧ W.cell? ⟨b, 1, none⟩ = some v1 ∧ W.cell? ⟨b, 2, none⟩ = some v2) ∧ (∀ j, W.frozen? ⟨b, j, none⟩ = false) := by
  refine ⟨⟨?_, ?_, ?_⟩, fun j => ?_⟩ <;> simp [World.cell?, World.frozen?, h]
theorem ta_thrown (f : Flt) (w : World) : (Instr.typeAssert (.iface 87 (.agg #[.int .i64 f.1, .int .i64 f.2.1, .int .i64 f.2.2])) 20 87 true).run Tryd.prog w = .ok (.tuple #[.agg #[.int .i64 f.1, .int .i64 f.2.1, .int .i64 f.2.2], .bool true]) w := by kernel_rfl
set_option maxRecDepth 100000 in
theorem catch_thrown (b : Nat) (f0 f : Flt) (older : List PanicEntry) (w : World) (hb : w.heap[b]? = some (.cells (fltC f0) 29 (0, 0))) :
    CallsD Tryd.prog 16 #[.pointer (some ⟨b, 0, none⟩)] (.panicking ({ v := thrownF f, recovered := false } :: older)) w fun e u' w' =>
      e = .returned (.tuple #[]) ∧ u' = .panicking ({ v := thrownF f, recovered := true } :: older) ∧ w.grownBy w' (some b) ∧ w'.heap[b]? = some (.cells (fltC f) 29 (0, 0)) := by
  refine callsD_of_wpS Tryd.func16 rfl fun c₀ cs hu => ?_
  apply wpS_seq
  apply wpS_region
  simp [wpOpsS, go_sem, recoverD, hu, Tryd.ntmps16, Exit.thenS]
  refine wpS_of_wp ?_
  have hfr : (#[.pointer (some ⟨b, 0, none⟩)] ++ (Array.replicate 14 undef).setIfInBounds 4 (thrownF f) : Array Value) = #[.pointer (some ⟨b, 0, none⟩), undef, undef, undef, undef, .iface 87 (.agg #[.int .i64 f.1, .int .i64 f.2.1, .int .i64 f.2.2]), undef, undef, undef, undef, undef, undef, undef, undef, undef] := rfl
  rw [hfr]
  generalize hQ : (fun e a' w' => bodyPostS Tryd.prog Tryd.f16 c₀ cs _ e a' _ w' : Exit → Act → World → Prop) = Q
  obtain ⟨⟨q0, q1, q2⟩, hfz⟩ := cellsF hb
  have z0 := hfz 0
  have z1 := hfz 1
  have z2 := hfz 2
  have hbl := heap_lt' hb
  have hta := ta_thrown f w
  clear hfz hfr
  go_wp2
  have hB := blk_put (blk_put (blk_put hb 0 (.int .i64 f.1) rfl) 1 (.int .i64 f.2.1) rfl) 2 (.int .i64 f.2.2) rfl
  have hG := grown_set (grown_set (grown_set (grown_refl w (some b)) 0 (.int .i64 f.1)) 1 (.int .i64 f.2.1)) 2 (.int .i64 f.2.2)
  generalize ((w.setCell ⟨b, 0, none⟩ (.int .i64 f.1)).setCell ⟨b, 1, none⟩ (.int .i64 f.2.1)).setCell ⟨b, 2, none⟩ (.int .i64 f.2.2) = W at hB hG ⊢
  have hba := below_alloc (Below.refl W.heap.size W) (.cells #[.int .i64 f.1, .int .i64 f.2.1, .int .i64 f.2.2] 87)
  have hG2 := grown_below hG hba
  have hB2 := (hba.block b (heap_lt' hB)).trans hB
  generalize W.alloc (.cells #[.int .i64 f.1, .int .i64 f.2.1, .int .i64 f.2.2] 87) = W2 at hB2 hG2 ⊢
  clear hta q0 q1 q2 z0 z1 z2
  subst hQ
  refine ⟨rfl, _, rfl, .tuple #[], ?_, rfl, rfl, hG2, hB2⟩
  simp [results, Tryd.results16, go_sem]
set_option maxRecDepth 100000 in
theorem catch_idle (b : Nat) (w : World) :
    CallsD Tryd.prog 16 #[.pointer (some ⟨b, 0, none⟩)] .returning w fun e u' w' => e = .returned (.tuple #[]) ∧ u' = .returning ∧ w' = w := by
  refine callsD_of_wpS Tryd.func16 rfl fun c₀ cs hu => ?_
  apply wpS_seq
  apply wpS_region
  simp [wpOpsS, go_sem, recoverD, hu, Tryd.ntmps16, Exit.thenS]
  refine wpS_of_wp ?_
  have hfr : (#[.pointer (some ⟨b, 0, none⟩)] ++ (Array.replicate 14 undef).setIfInBounds 4 Value.nilIface : Array Value) = #[.pointer (some ⟨b, 0, none⟩), undef, undef, undef, undef, .nilIface, undef, undef, undef, undef, undef, undef, undef, undef, undef] := rfl
  rw [hfr]
  generalize hQ : (fun e a' w' => bodyPostS Tryd.prog Tryd.f16 c₀ cs _ e a' _ w' : Exit → Act → World → Prop) = Q
  clear hfr
  go_wp2
  subst hQ
  obtain ⟨a, b, c, d, m, e, f⟩ := c₀
  simp only at hu
  subst hu
  simp [bodyPostS, results, Tryd.results16, go_sem]
set_option maxRecDepth 100000 in
theorem clos_zero (bf bo : Nat) (u : FrameMode) (w : World) (hf : w.heap[bf]? = some (.cells (fltC (0, 0, 0)) 29 (0, 0))) :
    CallsD Tryd.prog 15 #[.pointer (some ⟨bf, 0, none⟩), .pointer (some ⟨bo, 0, none⟩)] u w fun e u' w' => u' = u ∧ (e = .returned (.tuple #[]) ∧ w' = w) := by
  obtain ⟨⟨q0, q1, q2⟩, _⟩ := cellsF hf
  go_enter_d Tryd.func15, Tryd.ntmps15
  go_wp2
  go_end0
  exact ⟨rfl, rfl⟩
set_option maxRecDepth 100000 in
theorem clos_some (bf bo : Nat) (u : FrameMode) (w : World) (f : Flt) (h0 : ¬ f.1 = 0) (v0 v1 v2 v3 v4 v5 : Value) (hf : w.heap[bf]? = some (.cells (fltC f) 29 (0, 0))) (ho : w.heap[bo]? = some (.cells #[v0, v1, v2, v3, v4, v5] 26 (0, 0))) :
    CallsD Tryd.prog 15 #[.pointer (some ⟨bf, 0, none⟩), .pointer (some ⟨bo, 0, none⟩)] u w fun e u' w' => u' = u ∧ (e = .returned (.tuple #[]) ∧ w.grownBy w' (some bo) ∧ w'.heap[bo]? = some (.cells zE6 26 (0, 0))) := by
  obtain ⟨⟨q0, q1, q2⟩, _⟩ := cellsF hf
  obtain ⟨p0, p1, p2, p3, p4, p5⟩ := cells6 ho
  obtain ⟨f0, f1, f2, f3, f4, f5⟩ := froz6 ho
  have hbl := heap_lt' ho
  go_enter_d Tryd.func15, Tryd.ntmps15
  go_wp2
  go_end0
  have hF := put6 ho (.int .i64 0) (.int .i64 0) (.int .i64 0) (.int .u32 0) (.string ⟨#[]⟩) (.slice none 0 0)
  exact ⟨rfl, hF.2, hF.1⟩
end Go.Proofs.YtnjnadlgndjnbaaDoor.Pk
end

section
set_option linter.unusedVariables false
set_option linter.unusedSimpArgs false
namespace Go.Proofs.YtnjnadlgndjnbaaDoor.Pk
open Go.RowKit Go.Proofs.YtnjnadlgndjnbaaDoorW.PrintWords Go.Proofs.YtnjnadlgndjnbaaDoorW.PrintLast Go.Proofs.YtnjnadlgndjnbaaDoorW.PrintMore Go.Proofs.YtnjnadlgndjnbaaDoor.Lx
@[reducible] def exC (x : SE) (A5 : Option Addr) (c5 : Nat) : Array Value := #[.int .i64 x.f0, .int .i64 x.f1, .int .i64 x.f2, .int .u32 x.f3, .string x.f4, .slice A5 x.f5.length c5]
def ExprR (w : World) (x : SE) (f : Flt) (e : Ending) (w' : World) : Prop := ∃ A5 c5, e = .returned (.tuple #[.agg (exC x A5 c5), fltV f]) ∧ Kd.R kE 26 w' w.heap.size (fun _ => True) (.slice A5 x.f5.length c5) x.f5 ∧ Below w.heap.size w w'
abbrev zE0 : SE := ⟨0, 0, 0, 0, ⟨#[]⟩, []⟩
theorem below_two (w : World) (o o2 : Obj) : Below w.heap.size w ((w.alloc o).alloc o2) := (below_alloc (Below.refl _ _) o).alloc (below_alloc (Below.refl _ _) o).size o2
theorem PW.keysB {w w' : World} (h : PW w) (hb : Below w.heap.size w w') : Keys w' := (h.below hb).keys
theorem below_over {w W W' : World} {b : Nat} (h : Below w.heap.size w W) (k : W.grownBy W' (some b)) (hb : w.heap.size ≤ b) : Below w.heap.size w W' :=
  ⟨k.os.trans h.os, k.tape.trans h.tape, k.output.trans h.output, Nat.le_trans h.size k.size, fun q hq => (k.block q (Nat.lt_of_lt_of_le hq h.size) (fun e => by cases e; omega)).trans (h.block q hq)⟩
@[reducible] def deferred (b : Nat) : List Deferred := [{ target := Target.fn (Fn.func 16) #[], args := #[.pointer (some ⟨b + 1, 0, none⟩)] }, { target := Target.fn (Fn.func 15) #[.pointer (some ⟨b + 1, 0, none⟩), .pointer (some ⟨b, 0, none⟩)], args := #[] }]
theorem res_any (b : Nat) (f : Flt) (W : World) (v0 v1 v2 v3 v4 v5 : Value) (a0 a1 a4 a5 a6 a7 a8 a9 a10 a11 a12 a13 a14 a15 a16 a17 : Value) (ho : W.heap[b]? = some (.cells #[v0, v1, v2, v3, v4, v5] 26 (0, 0))) (hf : W.heap[b + 1]? = some (.cells (fltC f) 29 (0, 0))) :
    (results Tryd.f7 #[a0, a1, .pointer (some ⟨b, 0, none⟩), .pointer (some ⟨b + 1, 0, none⟩), a4, a5, a6, a7, a8, a9, a10, a11, a12, a13, a14, a15, a16, a17]).run Tryd.prog W = .ok (.tuple #[.agg #[v0, v1, v2, v3, v4, v5], fltV f]) W := by
  obtain ⟨p0, p1, p2, p3, p4, p5⟩ := cells6 ho
  obtain ⟨⟨q0, q1, q2⟩, _⟩ := cellsF hf
  simp [results, Tryd.results7, go_sem, p0, p1, p2, p3, p4, p5, q0, q1, q2, Tryd.underlying26, Tryd.underlying29, fltV]
set_option maxRecDepth 100000 in
theorem door_bad (w W : World) (f : Flt) (h0 : ¬ f.1 = 0) (a0 a1 a4 a5 a6 a7 a8 a9 a10 a11 a12 a13 a14 a15 a16 a17 : Value) (b : Nat) (hw : w.heap.size = b) (ho : W.heap[b]? = some (.cells zE6 26 (0, 0))) (hf : W.heap[b + 1]? = some (.cells (fltC (0, 0, 0)) 29 (0, 0))) (hb : Below w.heap.size w W) :
    Leaves Tryd.prog Tryd.f7 #[a0, a1, .pointer (some ⟨b, 0, none⟩), .pointer (some ⟨b + 1, 0, none⟩), a4, a5, a6, a7, a8, a9, a10, a11, a12, a13, a14, a15, a16, a17] (ExprR w zE0 f) (deferred b) (.panicking [{ v := thrownF f, recovered := false }]) W := by
  refine leaves_cons (f := 16) (args := #[.pointer (some ⟨b + 1, 0, none⟩)]) (by simp) (by simp [go_sem]) ?_
  refine (catch_thrown (b + 1) (0, 0, 0) f [] W hf).mono ?_
  rintro e u' W2 ⟨rfl, rfl, hG, hF⟩
  have ho2 := keep_blk ho hG (by omega)
  refine leaves_cons (f := 15) (args := #[.pointer (some ⟨b + 1, 0, none⟩), .pointer (some ⟨b, 0, none⟩)]) (by simp [settle]) (by simp [go_sem]) ?_
  refine (clos_some (b + 1) b _ W2 f h0 _ _ _ _ _ _ hF ho2).mono ?_
  rintro e u' W3 ⟨rfl, rfl, hG2, hZ⟩
  have hF3 := keep_blk hF hG2 (by omega)
  refine ⟨_, res_any b f W3 _ _ _ _ _ _ a0 a1 a4 a5 a6 a7 a8 a9 a10 a11 a12 a13 a14 a15 a16 a17 hZ hF3, none, 0, rfl, Kd.R_nil _ _ _ _ _, ?_⟩
  exact below_over (below_over hb hG (by omega)) hG2 (by omega)
set_option maxRecDepth 100000 in
theorem door_ok (w W : World) (x : SE) (A5 : Option Addr) (c5 : Nat) (a0 a1 a4 a5 a6 a7 a8 a9 a10 a11 a12 a13 a14 a15 a16 a17 : Value) (b : Nat) (hw : w.heap.size = b) (ho : W.heap[b]? = some (.cells (exC x A5 c5) 26 (0, 0))) (hf : W.heap[b + 1]? = some (.cells (fltC (0, 0, 0)) 29 (0, 0))) (hb : Below w.heap.size w W)
    (hR : Kd.R kE 26 W w.heap.size (fun _ => True) (.slice A5 x.f5.length c5) x.f5) :
    Leaves Tryd.prog Tryd.f7 #[a0, a1, .pointer (some ⟨b, 0, none⟩), .pointer (some ⟨b + 1, 0, none⟩), a4, a5, a6, a7, a8, a9, a10, a11, a12, a13, a14, a15, a16, a17] (ExprR w x (0, 0, 0)) (deferred b) .returning W := by
  refine leaves_cons (f := 16) (args := #[.pointer (some ⟨b + 1, 0, none⟩)]) (by simp) (by simp [go_sem]) ?_
  refine (catch_idle (b + 1) W).mono ?_
  rintro e u' W2 ⟨rfl, rfl, rfl⟩
  refine leaves_cons (f := 15) (args := #[.pointer (some ⟨b + 1, 0, none⟩), .pointer (some ⟨b, 0, none⟩)]) (by simp [settle]) (by simp [go_sem]) ?_
  refine (clos_zero (b + 1) b _ W2 hf).mono ?_
  rintro e u' W3 ⟨rfl, rfl, rfl⟩
  exact ⟨_, res_any b (0, 0, 0) W3 _ _ _ _ _ _ a0 a1 a4 a5 a6 a7 a8 a9 a10 a11 a12 a13 a14 a15 a16 a17 ho hf, A5, c5, rfl, hR, hb⟩
set_option maxRecDepth 100000 in
theorem Expr_lex (s : ByteArray) (w : World) (hs : s.size ≤ 65536) (hP : PW w) (lc : Int × Int) (h : (lexAll s).2 = some lc) :
    Calls Tryd.prog 7 #[.string s] w (ExprR w zE0 (11, lc)) := by
  have hmf : ∀ (fn : Fn) (first cap : Array Value) (w : World), (Instr.makeFunc fn first cap).run Tryd.prog w = .ok (.func fn first cap) w := fun _ _ _ _ => rfl
  go_enter_defers Tryd.func7, Tryd.ntmps7
  have hB0 := below_two w (.cells zE6 26) (.cells (fltC (0, 0, 0)) 29)
  have hBg := begin_bad s _ hs (hP.keysB hB0) lc h
  go_wp2_with (first | (go_at_call 17; (with_reducible refine hBg.mono ?_); rintro e w1 ⟨rfl, hb⟩) | fail)
  have hZ := (hb.block _ (by rw [two_size]; omega)).trans ((below_alloc (Below.refl _ (w.alloc (.cells zE6 26))) _).block _ (heap_lt' (NewB.alloc w zE6 26).1) |>.trans (NewB.alloc w zE6 26).1)
  have hF := (hb.block _ (by rw [two_size]; omega)).trans (two_new w (.cells zE6 26) (fltC (0, 0, 0)) 29)
  exact door_bad w w1 (11, lc) (by show ¬ (11 : Int) = 0; omega) _ _ _ _ _ _ _ _ _ _ _ _ _ _ _ _ _ rfl hZ hF (hB0.trans (hb.mono hB0.size))
end Go.Proofs.YtnjnadlgndjnbaaDoor.Pk
end
