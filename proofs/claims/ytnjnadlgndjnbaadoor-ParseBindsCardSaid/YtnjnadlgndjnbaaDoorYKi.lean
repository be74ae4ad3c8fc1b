/- Parse: the arguments of a call. -/
import Derived.Test.YtnjnadlgndjnbaaDoorYKg
set_option linter.unusedVariables false
set_option linter.unusedSimpArgs false
namespace Go.Proofs.YtnjnadlgndjnbaaDoor.Pk
open Go.RowKit Go.Proofs.YtnjnadlgndjnbaaDoorW.PrintWords Go.Proofs.YtnjnadlgndjnbaaDoorW.PrintLast Go.Proofs.YtnjnadlgndjnbaaDoorW.PrintMore Go.Proofs.YtnjnadlgndjnbaaDoor.Lx
section
variable {B g : Nat} {A : Option Addr} {c : Nat} {l : List Tk} {ln cl : Int} {k : Nat}
theorem grown_row {w W W' : World} {r row : Option Nat} (h : w.grownBy W r) (k : W.grownBy W' row) (hr : ∀ b, row = some b → w.heap.size ≤ b) : w.grownBy W' r :=
  ⟨k.os.trans h.os, k.tape.trans h.tape, k.output.trans h.output, Nat.le_trans h.size k.size, fun q hq hne => (k.block q (Nat.lt_of_lt_of_le hq h.size) (fun e => by have := hr q e.symm; omega)).trans (h.block q hq hne)⟩
theorem Pa.row {w w1 W : World} {i i' : Nat} {row : Option Nat} (h0 : Pa w g A c l i ln cl) (hg : w.grownBy W (some g)) (h1 : Pa w1 g A c l i' ln cl) (hk : w1.grownBy W row) (hne : some g ≠ row) : Pa W g A c l i' ln cl :=
  ⟨(hk.block g h1.lt hne).trans h1.st, h0.tk.step hg, h1.len, h1.pos, h1.txt⟩
theorem M_apart {w w2 w3 : World} {x : SE} {A5 : Option Addr} {c5 : Nat} {v : Value} {a : List SE} (hR : Kd.R kE 26 w3 w2.heap.size (fun k => k ≠ g) (.slice A5 x.f5.length c5) x.f5) (ha : Kd.R kE 26 w2 w.heap.size (fun k => k ≠ g) v a) (hle : w.heap.size ≤ w2.heap.size) :
    kE.M w3 w.heap.size (fun k => k ≠ g ∧ some k ≠ v.ownBlock) x [.int .i64 x.f0, .int .i64 x.f1, .int .i64 x.f2, .int .u32 x.f3, .string x.f4, .slice A5 x.f5.length c5] := by
  refine Go.Proofs.YtnjnadlgndjnbaaDoor.A.k26_mkM w3 _ _ x (Kd.R_mono (Kd.R_lower (Kd.R_bound hR) hle) (fun q hq => ⟨hq.1, fun e => ?_⟩))
  have := Kd.R_lt ha q e.symm
  have := hq.2.1
  omega
set_option maxRecDepth 100000 in
theorem args_nil (hk : Spec B g A c l ln cl k) (hB : B ≤ g) (w : World) (i : Nat) (hp : Pa w g A c l i ln cl) (hv : Pv B w) (hK : isK ⟨#[41]⟩ (nowT l i ln cl) = true) :
    Calls Tryd.prog 52 #[.pointer (some ⟨g, 0, none⟩)] w (Out (ArR g) w g A c l ln cl (.ok [] (ks l (i + 1)))) := by
  have hm := may_any ⟨#[41]⟩ hp (fun hx => isK_lt hx)
  rw [hK] at hm
  simp only [if_true] at hm
  go_enter Tryd.func52, Tryd.ntmps52
  go_wp2_with (go_at_call 38; (with_reducible refine hm.mono ?_); rintro e w1 ⟨rfl, hp1, hg1⟩)
  go_ret
  exact ⟨hg1, i + 1, _, rfl, hp1, rfl, none, 0, rfl, Kd.R_nil _ _ _ _ _⟩
def placeOf (w : World) (g : Nat) : Nat := match w.cell? ⟨g, 1, none⟩ with
  | some (.int _ n) => n.toNat
  | _ => 0
theorem Pa.place {w : World} {i : Nat} (h : Pa w g A c l i ln cl) : placeOf w g = i := by unfold placeOf; rw [h.c1]; simp
set_option maxRecDepth 100000 in
theorem args_bad1 (hk : Spec B g A c l ln cl k) (hB : B ≤ g) (w : World) (i : Nat) (rest : List Fp.Key) (hp : Pa w g A c l i ln cl) (hv : Pv B w) (hK : isK ⟨#[41]⟩ (nowT l i ln cl) = false) (he : Fp.expr k 1 (ks l i) = some (.bad rest)) :
    Calls Tryd.prog 52 #[.pointer (some ⟨g, 0, none⟩)] w (Out (ArR g) w g A c l ln cl (.bad rest)) := by
  have hm := may_any ⟨#[41]⟩ hp (fun hx => isK_lt hx)
  rw [hK] at hm
  simp only [Bool.false_eq_true, if_false] at hm
  go_enter Tryd.func52, Tryd.ntmps52
  go_wp2_with (first
    | (go_at_call 38; (with_reducible refine hm.mono ?_); rintro e w1 ⟨rfl, hp1, hg1⟩)
    | (go_at_call 18; (with_reducible refine (hk.expr1 w1 _ _ hp1 (hv.grown hg1 hB) he).mono ?_); rintro e w3 ⟨hg3, i', hr, hi', rfl⟩)
    | fail)
  exact ⟨rfl, grown_trans hg1 hg3, i', by first | rfl | exact hr, hi', rfl⟩
set_option maxRecDepth 100000 in
theorem args_go (hk : ∀ j, j ≤ k → Spec B g A c l ln cl j) (hB : B ≤ g) (hpos : ∀ j lv q e r, j ≤ k → Fp.expr j lv q = some (.ok e r) → r.length < q.length) (w : World) (i : Nat) (x : SE) (rest : List Fp.Key) (r : Fp.Res (List SE)) (hp : Pa w g A c l i ln cl) (hv : Pv B w)
    (hK : isK ⟨#[41]⟩ (nowT l i ln cl) = false) (he : Fp.expr k 1 (ks l i) = some (.ok x rest)) (hm2 : Fp.argsMore k [x] rest = some r) :
    Calls Tryd.prog 52 #[.pointer (some ⟨g, 0, none⟩)] w (Out (ArR g) w g A c l ln cl r) := by
  have hgl := hp.lt
  have hlen := hp.len
  have hm := may_any ⟨#[41]⟩ hp (fun hx => isK_lt hx)
  rw [hK] at hm
  simp only [Bool.false_eq_true, if_false] at hm
  have hps := hpos k 1 _ _ _ (Nat.le_refl _) he
  go_enter Tryd.func52, Tryd.ntmps52
  go_wp2_with (first
    | (go_at_call 38; (with_reducible refine hm.mono ?_); rintro e w2 ⟨rfl, hp2, hg2⟩)
    | (go_at_call 18; (with_reducible refine ((hk k (Nat.le_refl _)).expr1 w2 _ _ hp2 (hv.grown hg2 hB) he).mono ?_); rintro e w3 ⟨hg3, i', v, hr, hp3, rfl, A5, c5, rfl, hR⟩; have hRa := Kd.R_nil kE 26 w3 w.heap.size (fun k => k ≠ g); have hMx := M_apart (w := w) (v := .slice none 0 0) (a := []) hR (Kd.R_nil _ _ _ _ _) hg2.size; have hBa := Below.refl w.heap.size w3; have hSa := Nat.le_trans hg2.size hg3.size; have hil := hp3.pos)
    | ((with_reducible refine gate_builtin (b := .append) (xs := #[.tmp 5, .tmp 8]) rfl ?_); at_builtin; refine Kd.R_append kE (w0 := w3) w.heap.size rfl (.tmp 5) (.tmp 8) 24 26 (.agg zE6) 72 rfl Tryd.underlying24 Go.Proofs.YtnjnadlgndjnbaaDoor.A.info26 rfl (by decide) (by omega) (.slice none 0 0) ([] : List SE) x [.int .i64 x.f0, .int .i64 x.f1, .int .i64 x.f2, .int .u32 x.f3, .string x.f4, .slice A5 x.f5.length c5] (fun k => k ≠ g) (fun k => k ≠ g ∧ some k ≠ (.slice none 0 0 : Value).ownBlock) rfl rfl ?aP (fun _ hk => hk) ?aF ?aO ?aB ?aS ?aL ?_; (case aP => exact hMx); (case aF => exact (fun q hq => by have := hgl; omega)); (case aO => exact hRa); (case aB => exact hBa); (case aS => exact hSa); (case aL => first | omega | (simp; done) | (simp; omega)); intro v1 w5 ho hb5 hg5 hat)
    | fail)
  have hG5 := Hd.mk (grown_row (grown_trans hg2 hg3) hg5 (fun b hb => by cases hb))
  have hp5 := Hd.mk (Pa.row hp hG5.out hp3 hg5 (fun e => by cases e))
  have hR5 := Hd.mk ho
  have hi1 : i < i' := by rw [hr, ks_len, ks_len] at hps; omega
  subst hr
  clear hR ho hb5 hg5 hat hMx hRa hBa hSa hp2 hp3 hm he hK hps
  go_loopw [2] (fun t wr => ∃ (j : Nat) (a : List SE) (i : Nat), j ≤ k ∧ Fp.argsMore j a (ks l i) = some r ∧ a.length ≤ i ∧ Hd (Pa wr g A c l i ln cl) ∧ Hd (w.grownBy wr (some g)) ∧ Hd (Kd.R kE 26 wr w.heap.size (fun k => k ≠ g) t a)) (fun _ wr => l.length - placeOf wr g)
  case atStart => exact ⟨k, [x], i', Nat.le_refl _, hm2, by simp; omega, hp5, hG5, hR5⟩
  case round =>
    clear hp5 hG5 hR5 hm2
    obtain ⟨j, a, q, hj, ham, haq, hP, hG, hRR⟩ := hrel
    cases j with
    | zero => rw [Fp.argsMore] at ham; cases ham
    | succ j =>
      rw [Fp.argsMore] at ham
      have e44 : Fp.isT [44] (ks l q) = isK ⟨#[44]⟩ (nowT l q ln cl) := isT_K ⟨#[44]⟩
      have e41 : Fp.isT [41] (ks l q) = isK ⟨#[41]⟩ (nowT l q ln cl) := isT_K ⟨#[41]⟩
      rw [e44] at ham
      have hm4 := may_any ⟨#[44]⟩ hP.out (fun hx => isK_lt hx)
      cases hK4 : isK ⟨#[44]⟩ (nowT l q ln cl) with
      | true =>
        rw [hK4] at ham hm4
        have hq := isK_lt hK4
        rw [if_pos rfl, tail_K hq] at ham
        simp only [if_true] at hm4
        cases he : Fp.expr j 1 (ks l (q + 1)) with
        | none => rw [he] at ham; cases ham
        | some r1 =>
          rw [he] at ham
          have hkj := hk j (by omega)
          cases r1 with
          | bad rest =>
            obtain rfl := (Option.some.inj ham).symm
            go_wp2_with (first
              | (go_at_call 38; (with_reducible refine hm4.mono ?_); rintro e w2 ⟨rfl, hp2, hg2⟩)
              | (go_at_call 18; (with_reducible refine (hkj.expr1 w2 _ _ hp2 (hv.grown (grown_trans hG.out hg2) hB) he).mono ?_); rintro e w3 ⟨hg3, i', hr, hi', rfl⟩)
              | fail)
            exact ⟨rfl, grown_trans hG.out (grown_trans hg2 hg3), i', by first | rfl | exact hr, hi', rfl⟩
          | ok x rest =>
            have hps := hpos j 1 _ _ _ (by omega) he
            simp only [Fp.andThen] at ham
            have hal : a.length ≤ 65536 := by have := hP.out.pos; omega
            go_wp2_with (first
              | (go_at_call 38; (with_reducible refine hm4.mono ?_); rintro e w2 ⟨rfl, hp2, hg2⟩)
              | (go_at_call 18; (with_reducible refine (hkj.expr1 w2 _ _ hp2 (hv.grown (grown_trans hG.out hg2) hB) he).mono ?_); rintro e w3 ⟨hg3, i', v, hr, hp3, rfl, A5, c5, rfl, hR⟩; have hR2 := Kd.R_grown hRR.out hg2 (fun k hk e => hk (Option.some.inj e)); have hRa := Kd.R_grown hR2 hg3 (fun k hk e => hk (Option.some.inj e)); have hMx := M_apart (w := w) hR hR2 (grown_trans hG.out hg2).size; have hBa := Below.refl w.heap.size w3; have hSa := (grown_trans hG.out (grown_trans hg2 hg3)).size; have hil := hp3.pos)
              | ((with_reducible refine gate_builtin (b := .append) (xs := #[.tmp 12, .tmp 15]) rfl ?_); at_builtin; refine Kd.R_append kE (w0 := w3) w.heap.size rfl (.tmp 12) (.tmp 15) 24 26 (.agg zE6) 72 rfl Tryd.underlying24 Go.Proofs.YtnjnadlgndjnbaaDoor.A.info26 rfl (by decide) (by omega) u2 a x [.int .i64 x.f0, .int .i64 x.f1, .int .i64 x.f2, .int .u32 x.f3, .string x.f4, .slice A5 x.f5.length c5] (fun k => k ≠ g) (fun k => k ≠ g ∧ some k ≠ (u2 : Value).ownBlock) rfl rfl ?aP (fun _ hk => hk) ?aF ?aO ?aB ?aS ?aL ?_; (case aP => exact hMx); (case aF => exact (fun q hq => by have := hgl; omega)); (case aO => exact hRa); (case aB => exact hBa); (case aS => exact hSa); (case aL => first | omega | (simp; done) | (simp; omega)); intro v1 w5 ho hb5 hg5 hat)
              | fail)
            have hG5 := grown_row (grown_trans hG.out (grown_trans hg2 hg3)) hg5 (fun b hb => Kd.R_base hRa b hb)
            have hp5 := Pa.row hp hG5 hp3 hg5 (Kd.R_away hRa (fun _ hk => hk))
            have hq5 : q < i' := by rw [hr, ks_len, ks_len] at hps; omega
            subst hr
            exact ⟨⟨j, a ++ [x], i', by omega, ham, by simp; omega, ⟨hp5⟩, ⟨hG5⟩, ⟨ho⟩⟩, by rw [hp5.place, hP.out.place]; omega⟩
      | false =>
        rw [hK4, if_neg (by decide)] at ham
        rw [hK4] at hm4
        simp only [Bool.false_eq_true, if_false] at hm4
        unfold Fp.must at ham
        rw [e41] at ham
        cases hK1 : isK ⟨#[41]⟩ (nowT l q ln cl) with
        | false =>
          rw [hK1] at ham
          obtain rfl := (Option.some.inj ham).symm
          go_wp2_with (first
            | (go_at_call 38; (with_reducible refine hm4.mono ?_); rintro e w2 ⟨rfl, hp2, hg2⟩)
            | (go_at_call 24; (with_reducible refine (must_bad ⟨#[41]⟩ hp2 hK1).mono ?_); rintro e w3 ⟨rfl, hg3⟩)
            | fail)
          exact ⟨rfl, grown_trans hG.out (grown_trans hg2 hg3), q, rfl, hP.out.pos, rfl⟩
        | true =>
          rw [hK1, if_pos rfl, tail_K (isK_lt hK1)] at ham
          obtain rfl := (Option.some.inj ham).symm
          obtain ⟨Aa, ca, rfl⟩ := Kd.R_slice hRR.out
          go_wp2_with (first
            | (go_at_call 38; (with_reducible refine hm4.mono ?_); rintro e w2 ⟨rfl, hp2, hg2⟩)
            | (go_at_call 24; (with_reducible refine (must_ok ⟨#[41]⟩ hp2 hK1 (isK_lt hK1)).mono ?_); rintro e w3 ⟨rfl, hp3, hg3⟩)
            | fail)
          go_ret
          exact ⟨grown_trans hG.out (grown_trans hg2 hg3), q + 1, _, rfl, hp3, rfl, Aa, ca, rfl, Kd.R_grown hRR.out (grown_trans hg2 hg3) (fun k hk e => hk (Option.some.inj e))⟩
theorem args_step (hk : ∀ j, j ≤ k → Spec B g A c l ln cl j) (hB : B ≤ g) (hpos : ∀ j lv q e r, j ≤ k → Fp.expr j lv q = some (.ok e r) → r.length < q.length) (w : World) (i : Nat) (r : Fp.Res (List SE)) (hp : Pa w g A c l i ln cl) (hv : Pv B w)
    (h : Fp.args (k + 1) (ks l i) = some r) : Calls Tryd.prog 52 #[.pointer (some ⟨g, 0, none⟩)] w (Out (ArR g) w g A c l ln cl r) := by
  have e41 : Fp.isT [41] (ks l i) = isK ⟨#[41]⟩ (nowT l i ln cl) := isT_K ⟨#[41]⟩
  rw [Fp.args, e41] at h
  cases hK : isK ⟨#[41]⟩ (nowT l i ln cl) with
  | true =>
    rw [hK, if_pos rfl, tail_K (isK_lt hK)] at h
    obtain rfl := (Option.some.inj h).symm
    exact args_nil (hk k (Nat.le_refl _)) hB w i hp hv hK
  | false =>
    rw [hK, if_neg (by decide)] at h
    cases he : Fp.expr k 1 (ks l i) with
    | none => rw [he] at h; cases h
    | some r1 =>
      rw [he] at h
      cases r1 with
      | bad rest =>
        obtain rfl := (Option.some.inj h).symm
        exact args_bad1 (hk k (Nat.le_refl _)) hB w i _ hp hv hK he
      | ok x rest => exact args_go hk hB hpos w i x rest r hp hv hK he h
end
end Go.Proofs.YtnjnadlgndjnbaaDoor.Pk
