/- Parse: expr; the contracts of the parser of expressions at every fuel. -/
import Derived.Test.YtnjnadlgndjnbaaDoorYKj
import Derived.Test.YtnjnadlgndjnbaaDoorYKg
import Derived.Test.YtnjnadlgndjnbaaDoorYFb
set_option linter.unusedVariables false
set_option linter.unusedSimpArgs false
namespace Go.Proofs.YtnjnadlgndjnbaaDoor.Pk
open Go.RowKit Go.Proofs.YtnjnadlgndjnbaaDoorW.PrintWords Go.Proofs.YtnjnadlgndjnbaaDoorW.PrintLast Go.Proofs.YtnjnadlgndjnbaaDoorW.PrintMore Go.Proofs.YtnjnadlgndjnbaaDoor.Lx
section
variable {B g : Nat} {A : Option Addr} {c : Nat} {l : List Tk} {ln cl : Int} {k : Nat}
set_option maxRecDepth 100000 in
theorem expr_bad (hk : Spec B g A c l ln cl k) (hB : B ≤ g) (n : Nat) (hn1 : 1 ≤ n) (hn8 : n ≤ 8) (w : World) (i : Nat) (rest : List Fp.Key) (hp : Pa w g A c l i ln cl) (hv : Pv B w)
    (he : Fp.expr k (n + 1) (ks l i) = some (.bad rest)) :
    Calls Tryd.prog 18 #[.pointer (some ⟨g, 0, none⟩), .int .i64 n] w (Out (ExR g) w g A c l ln cl (.bad rest)) := by
  have en : IntKind.i64.wrap ((n : Int) + 1) = (n : Int) + 1 := IntWalk.i64_in _ (by omega)
  have h8 : decide ((8 : Int) < (n : Int)) = false := by simp; omega
  go_enter Tryd.func18, Tryd.ntmps18
  go_wp2
  refine wp_scope_jumps 0 (fun _ _ => False) (fun _ _ => 0) rfl ?_ (fun _ _ h => h.elim)
  go_wp2_with (first | (go_at_call 18; (with_reducible refine (hk.exprS n _ _ _ hn8 (hp.below (below_alloc (Below.refl w.heap.size w) (.cells zE6 26))) (hv.below (below_alloc (Below.refl w.heap.size w) (.cells zE6 26))) he).mono ?_); rintro e w3 ⟨hg3, i', hr, hi', rfl⟩) | fail)
  exact ⟨rfl, grown_trans (grown_of_below (below_alloc (Below.refl w.heap.size w) _) _) hg3, i', by first | rfl | exact hr, hi', rfl⟩
set_option maxRecDepth 100000 in
theorem expr_un (hk : Spec B g A c l ln cl k) (hB : B ≤ g) (w : World) (i : Nat) (r : Fp.Res SE) (hp : Pa w g A c l i ln cl) (hv : Pv B w)
    (he : Fp.unary k (ks l i) = some r) :
    Calls Tryd.prog 18 #[.pointer (some ⟨g, 0, none⟩), .int .i64 9] w (Out (ExR g) w g A c l ln cl r) := by
  have hgl := hp.lt
  have hB0 := below_alloc (Below.refl w.heap.size w) (.cells zE6 26)
  have hZ0 := (NewB.alloc w zE6 26).1
  have hs1 : (w.alloc (.cells zE6 26)).heap.size = w.heap.size + 1 := by show (w.heap.push _).size = _; simp
  go_enter Tryd.func18, Tryd.ntmps18
  go_wp2
  refine wp_scope_jumps 0 (fun _ _ => False) (fun _ _ => 0) rfl ?_ (fun _ _ h => h.elim)
  cases r with
  | bad rest =>
    go_wp2_with (first | (go_at_call 37; (with_reducible refine (hk.unary _ _ _ (hp.below hB0) (hv.below hB0) he).mono ?_); rintro e w3 ⟨hg3, i', hr, hi', rfl⟩) | fail)
    exact ⟨rfl, grown_trans (grown_of_below hB0 _) hg3, i', by first | rfl | exact hr, hi', rfl⟩
  | ok x rest =>
    go_wp2_with (first | (go_at_call 37; (with_reducible refine (hk.unary _ _ _ (hp.below hB0) (hv.below hB0) he).mono ?_); rintro e w3 ⟨hg3, i', v, hr, hp3, rfl, A5, c5, rfl, hR⟩; have hZ3 := keep_blk hZ0 hg3 (by omega); obtain ⟨q0, q1, q2, q3, q4, q5⟩ := cells6 hZ3; obtain ⟨f0, f1, f2, f3, f4, f5⟩ := froz6 hZ3) | fail)
    have hF6 := put6 hZ3 (.int .i64 x.f0) (.int .i64 x.f1) (.int .i64 x.f2) (.int .u32 x.f3) (.string x.f4) (.slice A5 x.f5.length c5)
    have hGF := grown_over (grown_trans (grown_of_below hB0 (some g)) hg3) hF6.2 (Nat.le_refl _)
    simp only [Exit.jump]
    refine bodyPost_ret (results_cell_row rfl _ _ _ 26 _ (0, 0) _ rfl hF6.1 Tryd.underlying26 rfl (by kernel_rfl)) rfl ?_
    rw [hs1] at hR
    exact ⟨hGF, i', _, by first | rfl | exact hr, hp.fin hGF hp3 hF6.2 (by omega), rfl, A5, c5, rfl, R_fin hR hF6.2 (Nat.lt_succ_self _) (Nat.le_succ _)⟩
theorem expr_step (hk : ∀ j, j ≤ k → Spec B g A c l ln cl j) (hB : B ≤ g) (hpos : ∀ j lv q e r, j ≤ k → Fp.expr j lv q = some (.ok e r) → r.length < q.length) (n : Nat) (hn1 : 1 ≤ n) (hn9 : n ≤ 9) (w : World) (i : Nat) (r : Fp.Res SE) (hp : Pa w g A c l i ln cl) (hv : Pv B w)
    (h : Fp.expr (k + 1) n (ks l i) = some r) : Calls Tryd.prog 18 #[.pointer (some ⟨g, 0, none⟩), .int .i64 n] w (Out (ExR g) w g A c l ln cl r) := by
  rw [Fp.expr] at h
  by_cases h8 : 8 < n
  · obtain rfl : n = 9 := by omega
    rw [if_pos h8] at h
    exact expr_un (hk k (Nat.le_refl _)) hB w i r hp hv h
  · rw [if_neg h8] at h
    cases he : Fp.expr k (n + 1) (ks l i) with
    | none => rw [he] at h; cases h
    | some r1 =>
      rw [he] at h
      cases r1 with
      | bad rest =>
        obtain rfl := (Option.some.inj h).symm
        exact expr_bad (hk k (Nat.le_refl _)) hB n hn1 (by omega) w i rest hp hv he
      | ok x rest => exact expr_go hk hB hpos n hn1 (by omega) w i x rest r hp hv he h
theorem spec_all (hB : B ≤ g) : ∀ k, Spec B g A c l ln cl k := by
  intro k
  induction k using Nat.strongRecOn with
  | _ k ih =>
    cases k with
    | zero => exact ⟨fun _ _ _ _ _ _ _ _ h => (by rw [Fp.expr] at h; cases h), fun _ _ _ _ _ h => (by rw [Fp.unary] at h; cases h), fun _ _ _ _ _ h => (by rw [Fp.primary] at h; cases h), fun _ _ _ _ _ h => (by rw [Fp.args] at h; cases h)⟩
    | succ k =>
      have hk : ∀ j, j ≤ k → Spec B g A c l ln cl j := fun j hj => ih j (by omega)
      have hpos : ∀ j lv q e r, j ≤ k → Fp.expr j lv q = some (.ok e r) → r.length < q.length := fun j lv q e r _ h => by
        have := (Fp.lens j).1 _ _ _ _ h
        have := Fp.szE_pos e
        omega
      exact ⟨fun n w i r h1 h9 hp hv h => expr_step hk hB hpos n h1 h9 w i r hp hv h, fun w i r hp hv h => unary_step (hk k (Nat.le_refl _)) hB w i r hp hv h, fun w i r hp hv h => primary_step (hk k (Nat.le_refl _)) hB w i r hp hv h, fun w i r hp hv h => args_step hk hB hpos w i r hp hv h⟩
end
end Go.Proofs.YtnjnadlgndjnbaaDoor.Pk
