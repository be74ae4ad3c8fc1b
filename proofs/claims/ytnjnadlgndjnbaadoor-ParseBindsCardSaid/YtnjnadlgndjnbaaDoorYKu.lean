/- Parse: parse.Stmts: its doors; a source whose first statement is none. -/
import Derived.Test.YtnjnadlgndjnbaaDoorYKt
import Derived.Test.YtnjnadlgndjnbaaDoorYKn
set_option linter.unusedVariables false
set_option linter.unusedSimpArgs false
namespace Go.Proofs.YtnjnadlgndjnbaaDoor.Pk
open Go.RowKit Go.Proofs.YtnjnadlgndjnbaaDoorW.PrintWords Go.Proofs.YtnjnadlgndjnbaaDoorW.PrintLast Go.Proofs.YtnjnadlgndjnbaaDoorW.PrintMore Go.Proofs.YtnjnadlgndjnbaaDoor.Lx
theorem cells1 {W : World} {b : Nat} {t : TypeId} {v0 : Value} (h : W.heap[b]? = some (.cells #[v0] t (0, 0))) : W.cell? ⟨b, 0, none⟩ = some v0 ∧ W.frozen? ⟨b, 0, none⟩ = false := by
  constructor <;> simp [World.cell?, World.frozen?, h]
set_option maxRecDepth 100000 in
theorem closS_some (bf bo : Nat) (u : FrameMode) (w : World) (f : Flt) (h0 : ¬ f.1 = 0) (v0 : Value) (t : TypeId) (hf : w.heap[bf]? = some (.cells (fltC f) 29 (0, 0))) (ho : w.heap[bo]? = some (.cells #[v0] t (0, 0))) :
    CallsD Tryd.prog 32 #[.pointer (some ⟨bf, 0, none⟩), .pointer (some ⟨bo, 0, none⟩)] u w fun e u' w' => u' = u ∧ (e = .returned (.tuple #[]) ∧ w.grownBy w' (some bo) ∧ w'.heap[bo]? = some (.cells #[.slice none 0 0] t (0, 0))) := by
  obtain ⟨⟨q0, q1, q2⟩, _⟩ := cellsF hf
  obtain ⟨p0, f0⟩ := cells1 ho
  have hbl := heap_lt' ho
  go_enter_d Tryd.func32, Tryd.ntmps32
  go_wp2
  go_end0
  exact ⟨rfl, grown_set (grown_refl _ _) 0 _, blk_put ho 0 _ rfl⟩
def StmtsR (w : World) (x : List SS) (f : Flt) (e : Ending) (w' : World) : Prop := ∃ A5 c5, e = .returned (.tuple #[.slice A5 x.length c5, fltV f]) ∧ Kd.R kS 57 w' w.heap.size (fun _ => True) (.slice A5 x.length c5) x ∧ Below w.heap.size w w'
@[reducible] def deferredS (b : Nat) : List Deferred := [{ target := Target.fn (Fn.func 16) #[], args := #[.pointer (some ⟨b + 1, 0, none⟩)] }, { target := Target.fn (Fn.func 32) #[.pointer (some ⟨b + 1, 0, none⟩), .pointer (some ⟨b, 0, none⟩)], args := #[] }]
theorem resS_any (b : Nat) (f : Flt) (W : World) (T : Array Value) (v0 : Value) (hT2 : T[2]? = some (.pointer (some ⟨b, 0, none⟩))) (hT3 : T[3]? = some (.pointer (some ⟨b + 1, 0, none⟩))) (ho : W.heap[b]? = some (.cells #[v0] 53 (0, 0))) (hf : W.heap[b + 1]? = some (.cells (fltC f) 29 (0, 0))) :
    (results Tryd.f12 T).run Tryd.prog W = .ok (.tuple #[v0, fltV f]) W := by
  obtain ⟨p0, _⟩ := cells1 ho
  obtain ⟨⟨q0, q1, q2⟩, _⟩ := cellsF hf
  simp [results, Tryd.results12, go_sem, hT2, hT3, p0, q0, q1, q2, Tryd.underlying53, Tryd.underlying29, fltV]
set_option maxRecDepth 100000 in
theorem doorS_bad (w W : World) (f : Flt) (h0 : ¬ f.1 = 0) (T : Array Value) (b : Nat) (hT2 : T[2]? = some (.pointer (some ⟨b, 0, none⟩))) (hT3 : T[3]? = some (.pointer (some ⟨b + 1, 0, none⟩))) (hw : w.heap.size = b) (v0 : Value) (ho : W.heap[b]? = some (.cells #[v0] 53 (0, 0))) (hf : W.heap[b + 1]? = some (.cells (fltC (0, 0, 0)) 29 (0, 0))) (hb : Below w.heap.size w W) :
    Leaves Tryd.prog Tryd.f12 T (StmtsR w [] f) (deferredS b) (.panicking [{ v := thrownF f, recovered := false }]) W := by
  refine leaves_cons (f := 16) (args := #[.pointer (some ⟨b + 1, 0, none⟩)]) (by simp) (by simp [go_sem]) ?_
  refine (catch_thrown (b + 1) (0, 0, 0) f [] W hf).mono ?_
  rintro e u' W2 ⟨rfl, rfl, hG, hF⟩
  have ho2 := keep_blk ho hG (by omega)
  refine leaves_cons (f := 32) (args := #[.pointer (some ⟨b + 1, 0, none⟩), .pointer (some ⟨b, 0, none⟩)]) (by simp [settle]) (by simp [go_sem]) ?_
  refine (closS_some (b + 1) b _ W2 f h0 _ _ hF ho2).mono ?_
  rintro e u' W3 ⟨rfl, rfl, hG2, hZ⟩
  have hF3 := keep_blk hF hG2 (by omega)
  refine ⟨_, resS_any b f W3 T _ hT2 hT3 hZ hF3, none, 0, rfl, Kd.R_nil _ _ _ _ _, ?_⟩
  exact below_over (below_over hb hG (by omega)) hG2 (by omega)
theorem start_any (w w1 : World) (z : Array Value) (t : TypeId) (hb : Below ((w.alloc (.cells z t)).alloc (.cells (fltC (0, 0, 0)) 29)).heap.size ((w.alloc (.cells z t)).alloc (.cells (fltC (0, 0, 0)) 29)) w1) :
    w1.heap[w.heap.size]? = some (.cells z t (0, 0)) ∧ w1.heap[w.heap.size + 1]? = some (.cells (fltC (0, 0, 0)) 29 (0, 0)) ∧ Below w.heap.size w w1 :=
  ⟨(hb.block _ (by rw [two_size]; omega)).trans ((below_alloc (Below.refl _ (w.alloc (.cells z t))) _).block _ (heap_lt' (NewB.alloc w z t).1) |>.trans (NewB.alloc w z t).1),
   (hb.block _ (by rw [two_size]; omega)).trans (two_new w (.cells z t) (fltC (0, 0, 0)) 29), (below_two w _ _).trans (hb.mono (below_two w _ _).size)⟩
section
variable {w : World} {s : ByteArray} {l : List Tk}
set_option maxRecDepth 100000 in
theorem Stmts_first (hs : s.size ≤ 65536) (hP : PW w) (hl : lexAll s = (l, none)) (h0 : 0 < l.length) (j : Nat) (hj : j ≤ l.length)
    (hst : ∀ (W : World) (g : Nat) (A : Option Addr) (c : Nat), w.heap.size ≤ g → Pa W g A c l 0 (endOf s).1 (endOf s).2 → Pv w.heap.size W → Calls Tryd.prog 33 #[.pointer (some ⟨g, 0, none⟩)] W fun e W' => W.grownBy W' (some g) ∧ e = .panicked [{ v := thrown (nowT l j (endOf s).1 (endOf s).2), recovered := false }]) :
    Calls Tryd.prog 12 #[.string s] w (StmtsR w [] (14, (nowT l j (endOf s).1 (endOf s).2).line, (nowT l j (endOf s).1 (endOf s).2).col)) := by
  have hmf : ∀ (fn : Fn) (first cap : Array Value) (w : World), (Instr.makeFunc fn first cap).run Tryd.prog w = .ok (.func fn first cap) w := fun _ _ _ _ => rfl
  have hB0 := below_two w (.cells #[.slice none 0 0] 53) (.cells (fltC (0, 0, 0)) 29)
  have hBg := begin_ok s _ hs (hP.keysB hB0) (by rw [hl])
  rw [hl] at hBg
  have h0' : (0 : Int) < (l.length : Int) := by omega
  go_enter_defers Tryd.func12, Tryd.ntmps12
  go_wp2_with (first
    | (go_at_call 17; (with_reducible refine hBg.mono ?_); rintro e w1 ⟨g, A, c, rfl, hg, hb, hp⟩; obtain ⟨hZ, hF, hB⟩ := start_any w w1 _ _ hb; have hv := (Pv.of hP).below hB; rw [two_size] at hg; have HZ := Hd.mk hZ; have HF := Hd.mk hF; have HB := Hd.mk hB; clear hZ hF hB hb)
    | fail)
  have HP := Hd.mk hp
  have HV := Hd.mk hv
  clear hp hv
  go_loopw [5] (fun t wr => t = .slice none 0 0 ∧ Hd (Pa wr g A c l 0 (endOf s).1 (endOf s).2) ∧ Hd (Pv w.heap.size wr) ∧ Hd (wr.heap[w.heap.size]? = some (.cells #[.slice none 0 0] 53 (0, 0))) ∧ Hd (wr.heap[w.heap.size + 1]? = some (.cells (fltC (0, 0, 0)) 29 (0, 0))) ∧ Hd (Below w.heap.size w wr)) (fun _ _ => 0)
  case atStart => exact ⟨rfl, HP, HV, HZ, HF, HB⟩
  case round =>
    clear HP HV HZ HF HB
    obtain ⟨rfl, HP, HV, HZ, HF, HB⟩ := hrel
    have hc0 := HP.out.c0
    have hc1 := HP.out.c1
    have hgl := HP.out.lt
    have hL0 := Hd.mk h0
    clear h0
    generalize hLn : l.length = L at hc0 h0'
    go_wp2_with (fail)
    go_quiet (fail)
    have hq := pw_below_drewN' (Below.refl wr.heap.size wr) nq
    have hS := hst _ g A c (by omega) (HP.out.below hq) (HV.out.below hq)
    have HQ := Hd.mk hq
    clear hq hc0 hc1
    go_wp2_with (first | (go_at_call 33; (with_reducible refine hS.mono ?_); rintro e w3 ⟨hg3, rfl⟩) | fail)
    have hq := HQ.out
    have hg4 := grown_trans (grown_of_below hq (some g)) hg3
    exact doorS_bad w w3 (14, _, _) (by show ¬ (14 : Int) = 0; omega) _ _ rfl rfl rfl _ (keep_blk HZ.out hg4 (by omega)) (keep_blk HF.out hg4 (by omega)) (HB.out.trans (below_of_grown hg4 HB.out.size (by omega)))
end
end Go.Proofs.YtnjnadlgndjnbaaDoor.Pk
