/- ParseBrackets: the walk. -/
import Derived.Test.YtnjnadlgndjnbaaDoorZKv
set_option linter.unusedVariables false
set_option linter.unusedSimpArgs false
namespace Go.Proofs.YtnjnadlgndjnbaaDoor.Pk
open Go.RowKit Go.Proofs.YtnjnadlgndjnbaaDoorW.PrintWords Go.Proofs.YtnjnadlgndjnbaaDoorW.PrintLast Go.Proofs.YtnjnadlgndjnbaaDoorW.PrintMore Go.Proofs.YtnjnadlgndjnbaaDoor.Lx
theorem bsize (a s b : ByteArray) : ((a ++ s) ++ b).size = a.size + s.size + b.size := by simp
theorem bfit {a s b : ByteArray} (hs : s.size ≤ 3000) (ha : a.size ≤ 10) (hb : b.size ≤ 10) : ((a ++ s) ++ b).size ≤ 65536 := by rw [bsize]; omega
theorem cells7 {W : World} {b : Nat} {t : TypeId} {v0 v1 v2 v3 v4 v5 v6 : Value} (h : W.heap[b]? = some (.cells #[v0, v1, v2, v3, v4, v5, v6] t (0, 0))) :
    W.cell? ⟨b, 0, none⟩ = some v0 ∧ W.cell? ⟨b, 1, none⟩ = some v1 ∧ W.cell? ⟨b, 2, none⟩ = some v2 ∧ W.cell? ⟨b, 3, none⟩ = some v3 ∧ W.cell? ⟨b, 4, none⟩ = some v4 ∧ W.cell? ⟨b, 5, none⟩ = some v5 ∧ W.cell? ⟨b, 6, none⟩ = some v6 := by
  refine ⟨?_, ?_, ?_, ?_, ?_, ?_, ?_⟩ <;> simp [World.cell?, h]
theorem res_bad {s : ByteArray} {x : SE} {f : Flt} (h : Fp.parseRes s = (x, f)) (h0 : ¬ f = (0, 0, 0)) : x = zE0 := by
  unfold Fp.parseRes at h
  cases hl : (lexAll s).2 with
  | some lc => rw [hl] at h; simp only [Prod.mk.injEq] at h; exact h.1.symm
  | none =>
    rw [hl] at h
    cases hp : Fp.parseK (Fp.keys (lexAll s).1) with
    | none => exact absurd hp (Fp.parseK_some _)
    | some y =>
      rw [hp] at h
      cases y with
      | bad r => simp only [Prod.mk.injEq] at h; exact h.1.symm
      | ok e r =>
        cases r with
        | cons k r => simp only [Prod.mk.injEq] at h; exact h.1.symm
        | nil =>
          simp only at h
          unfold Fp.judged at h
          split at h
          · simp only [Prod.mk.injEq] at h; exact absurd h.2.symm h0
          · split at h
            · simp only [Prod.mk.injEq] at h; exact h.1.symm
            · simp only [Prod.mk.injEq] at h; exact h.1.symm
theorem same_rfl (x : SE) : A.sameE x x = true := A.sameE_rfl x
set_option maxRecDepth 100000 in
theorem br_long (s : ByteArray) (w : World) (hP : PW w) (hs : 3000 < s.size) (hs2 : s.size ≤ 140737488351232) :
    Calls Tryd.prog 3 #[.string s] w fun e w' => e = .returned (.bool true) ∧ Below w.heap.size w w' := by
  have hs' : (3000 : Int) < (s.size : Int) := by omega
  go_enter Tryd.func3, Tryd.ntmps3
  go_wp2_with (first
    | (go_at_call 6; (with_reducible refine (lives_any _ hP).mono ?_); rintro e w1 ⟨rfl, hb⟩; have HB := Hd.mk hb; clear hb)
    | fail)
  go_ret
  exact ⟨rfl, HB.out⟩
set_option maxRecDepth 100000 in
theorem br_bad (s : ByteArray) (w : World) (hP : PW w) (hs : s.size ≤ 3000) (f : Flt) (h : Fp.parseRes s = (zE0, f)) (h0 : ¬ f = (0, 0, 0)) :
    Calls Tryd.prog 3 #[.string s] w fun e w' => e = .returned (.bool true) ∧ Below w.heap.size w w' := by
  have hs' : ¬ (3000 : Int) < (s.size : Int) := by omega
  obtain ⟨f1, f2, f3⟩ := f
  have hE : Hd (∀ W : World, PW W → Calls Tryd.prog 7 #[.string s] W fun e w' => ∃ A5 c5, e = .returned (.tuple #[.agg #[.int .i64 0, .int .i64 0, .int .i64 0, .int .u32 0, .string ⟨#[]⟩, .slice A5 0 c5], .agg #[.int .i64 f1, .int .i64 f2, .int .i64 f3]]) ∧ Kd.R kE 26 w' W.heap.size (fun _ => True) (.slice A5 0 c5) [] ∧ Below W.heap.size W w') := Hd.mk (fun W hW => by
    have := Expr_any s W (by omega) hW
    rw [h] at this
    exact this)
  have hne : Hd (¬ (f1 = 0 ∧ f2 = 0 ∧ f3 = 0)) := Hd.mk (fun hq => h0 (by rw [hq.1, hq.2.1, hq.2.2]))
  clear h h0
  have hcase : ¬ f1 = 0 ∨ (f1 = 0 ∧ ¬ f2 = 0) ∨ (f1 = 0 ∧ f2 = 0 ∧ ¬ f3 = 0) := by
    by_cases a : f1 = 0
    · by_cases b : f2 = 0
      · exact .inr (.inr ⟨a, b, fun c => hne.out ⟨a, b, c⟩⟩)
      · exact .inr (.inl ⟨a, b⟩)
    · exact .inl a
  clear hne
  rcases hcase with hc | ⟨rfl, hc⟩ | ⟨rfl, rfl, hc⟩
  · go_enter Tryd.func3, Tryd.ntmps3
    go_wp2_with (first
      | (go_at_call 6; (with_reducible refine (lives_any _ hP).mono ?_); rintro e w1 ⟨rfl, hb⟩; have HB := Hd.mk hb; clear hb)
      | (go_at_call 7; (with_reducible refine (hE.out _ (hP.below HB.out)).mono ?_); rintro e w2 ⟨A5, c5, rfl, hR, hb⟩; have HR := Hd.mk hR; replace HB := Hd.mk (HB.out.trans (hb.mono HB.out.size)); clear hR hb)
      | (go_at_call 8; have hb2 := below_two w2 (.cells #[.int .i64 0, .int .i64 0, .int .i64 0, .int .u32 0, .string ⟨#[]⟩, .slice A5 0 c5] 26) (.cells #[.int .i64 f1, .int .i64 f2, .int .i64 f3] 29); have hK : Calls Tryd.prog 8 #[.agg #[.int .i64 0, .int .i64 0, .int .i64 0, .int .u32 0, .string ⟨#[]⟩, .slice A5 0 c5], .agg #[.int .i64 0, .int .i64 0, .int .i64 0, .int .u32 0, .string ⟨#[]⟩, .slice none 0 0]] _ (fun e w' => e = .returned (.bool true) ∧ Below _ _ w') := (same_rfl zE0) ▸ A.kitAt_any _ zE0 (Nat.le_refl _) zE0 A5 c5 none 0 _ (rowsE_of (x := zE0) (Kd.R_below HR.out hb2)) (rowsE_of (x := zE0) (Kd.R_nil _ _ _ 0 (fun _ => True))); (with_reducible refine hK.mono ?_); rintro e w3 ⟨rfl, hb⟩; replace HB := Hd.mk ((HB.out.trans (hb2.mono HB.out.size)).trans (hb.mono (Nat.le_trans HB.out.size hb2.size))); clear hb hb2 hK)
      | fail)
    go_ret
    exact ⟨rfl, HB.out⟩
  · go_enter Tryd.func3, Tryd.ntmps3
    go_wp2_with (first
      | (go_at_call 6; (with_reducible refine (lives_any _ hP).mono ?_); rintro e w1 ⟨rfl, hb⟩; have HB := Hd.mk hb; clear hb)
      | (go_at_call 7; (with_reducible refine (hE.out _ (hP.below HB.out)).mono ?_); rintro e w2 ⟨A5, c5, rfl, hR, hb⟩; have HR := Hd.mk hR; replace HB := Hd.mk (HB.out.trans (hb.mono HB.out.size)); clear hR hb)
      | (go_at_call 8; have hb2 := below_two w2 (.cells #[.int .i64 0, .int .i64 0, .int .i64 0, .int .u32 0, .string ⟨#[]⟩, .slice A5 0 c5] 26) (.cells #[.int .i64 0, .int .i64 f2, .int .i64 f3] 29); have hK : Calls Tryd.prog 8 #[.agg #[.int .i64 0, .int .i64 0, .int .i64 0, .int .u32 0, .string ⟨#[]⟩, .slice A5 0 c5], .agg #[.int .i64 0, .int .i64 0, .int .i64 0, .int .u32 0, .string ⟨#[]⟩, .slice none 0 0]] _ (fun e w' => e = .returned (.bool true) ∧ Below _ _ w') := (same_rfl zE0) ▸ A.kitAt_any _ zE0 (Nat.le_refl _) zE0 A5 c5 none 0 _ (rowsE_of (x := zE0) (Kd.R_below HR.out hb2)) (rowsE_of (x := zE0) (Kd.R_nil _ _ _ 0 (fun _ => True))); (with_reducible refine hK.mono ?_); rintro e w3 ⟨rfl, hb⟩; replace HB := Hd.mk ((HB.out.trans (hb2.mono HB.out.size)).trans (hb.mono (Nat.le_trans HB.out.size hb2.size))); clear hb hb2 hK)
      | fail)
    go_ret
    exact ⟨rfl, HB.out⟩
  · go_enter Tryd.func3, Tryd.ntmps3
    go_wp2_with (first
      | (go_at_call 6; (with_reducible refine (lives_any _ hP).mono ?_); rintro e w1 ⟨rfl, hb⟩; have HB := Hd.mk hb; clear hb)
      | (go_at_call 7; (with_reducible refine (hE.out _ (hP.below HB.out)).mono ?_); rintro e w2 ⟨A5, c5, rfl, hR, hb⟩; have HR := Hd.mk hR; replace HB := Hd.mk (HB.out.trans (hb.mono HB.out.size)); clear hR hb)
      | (go_at_call 8; have hb2 := below_two w2 (.cells #[.int .i64 0, .int .i64 0, .int .i64 0, .int .u32 0, .string ⟨#[]⟩, .slice A5 0 c5] 26) (.cells #[.int .i64 0, .int .i64 0, .int .i64 f3] 29); have hK : Calls Tryd.prog 8 #[.agg #[.int .i64 0, .int .i64 0, .int .i64 0, .int .u32 0, .string ⟨#[]⟩, .slice A5 0 c5], .agg #[.int .i64 0, .int .i64 0, .int .i64 0, .int .u32 0, .string ⟨#[]⟩, .slice none 0 0]] _ (fun e w' => e = .returned (.bool true) ∧ Below _ _ w') := (same_rfl zE0) ▸ A.kitAt_any _ zE0 (Nat.le_refl _) zE0 A5 c5 none 0 _ (rowsE_of (x := zE0) (Kd.R_below HR.out hb2)) (rowsE_of (x := zE0) (Kd.R_nil _ _ _ 0 (fun _ => True))); (with_reducible refine hK.mono ?_); rintro e w3 ⟨rfl, hb⟩; replace HB := Hd.mk ((HB.out.trans (hb2.mono HB.out.size)).trans (hb.mono (Nat.le_trans HB.out.size hb2.size))); clear hb hb2 hK)
      | fail)
    go_ret
    exact ⟨rfl, HB.out⟩
set_option maxRecDepth 100000 in
set_option maxHeartbeats 8000000 in
theorem br_ok (s : ByteArray) (w : World) (hP : PW w) (hs : s.size ≤ 3000) (x : SE) (h : Fp.parseRes s = (x, 0, 0, 0)) :
    Calls Tryd.prog 3 #[.string s] w fun e w' => e = .returned (.bool true) ∧ Below w.heap.size w w' := by
  have hs' : ¬ (3000 : Int) < (s.size : Int) := by omega
  obtain ⟨b1, b2, b3, b4, b5, b6, g3, g4, g5, g6⟩ := Fp.brackets hs h
  have hE : Hd (∀ W : World, PW W → Calls Tryd.prog 7 #[.string s] W fun e w' => ∃ A5 c5, e = .returned (.tuple #[.agg (exC x A5 c5), .agg #[.int .i64 0, .int .i64 0, .int .i64 0]]) ∧ Kd.R kE 26 w' W.heap.size (fun _ => True) (.slice A5 (x).f5.length c5) (x).f5 ∧ Below W.heap.size W w') := Hd.mk (fun W hW => by
    have := Expr_any s W (by omega) hW
    rw [h] at this
    exact this)
  have hE1 : Hd (∀ W : World, PW W → Calls Tryd.prog 7 #[.string (((⟨#[40]⟩ : ByteArray) ++ s) ++ ⟨#[10, 41]⟩)] W fun e w' => ∃ A5 c5, e = .returned (.tuple #[.agg (exC x A5 c5), .agg #[.int .i64 0, .int .i64 0, .int .i64 0]]) ∧ Kd.R kE 26 w' W.heap.size (fun _ => True) (.slice A5 (x).f5.length c5) (x).f5 ∧ Below W.heap.size W w') := Hd.mk (fun W h => by
    have := Expr_any (((⟨#[40]⟩ : ByteArray) ++ s) ++ ⟨#[10, 41]⟩) W (bfit hs (by decide) (by decide)) h
    rw [b1] at this
    exact this)
  have hE2 : Hd (∀ W : World, PW W → Calls Tryd.prog 7 #[.string (((⟨#[40, 32, 40]⟩ : ByteArray) ++ s) ++ ⟨#[10, 41, 41]⟩)] W fun e w' => ∃ A5 c5, e = .returned (.tuple #[.agg (exC x A5 c5), .agg #[.int .i64 0, .int .i64 0, .int .i64 0]]) ∧ Kd.R kE 26 w' W.heap.size (fun _ => True) (.slice A5 (x).f5.length c5) (x).f5 ∧ Below W.heap.size W w') := Hd.mk (fun W h => by
    have := Expr_any (((⟨#[40, 32, 40]⟩ : ByteArray) ++ s) ++ ⟨#[10, 41, 41]⟩) W (bfit hs (by decide) (by decide)) h
    rw [b2] at this
    exact this)
  have HG := Hd.mk (And.intro (And.intro b3 g3) (And.intro (And.intro b4 g4) (And.intro (And.intro b5 g5) (And.intro b6 g6))))
  clear b1 b2 b3 b4 b5 b6 g3 g4 g5 g6 h
  go_enter Tryd.func3, Tryd.ntmps3
  go_wp2_with (first
    | (go_at_call 6; (with_reducible refine (lives_any _ hP).mono ?_); rintro e w1 ⟨rfl, hb⟩; have HB := Hd.mk hb; clear hb)
    | (go_at_call 7; (with_reducible refine (hE.out _ (hP.below HB.out)).mono ?_); rintro e w2 ⟨A5, c5, rfl, hR, hb⟩; have hw1 := HB.out.size; have HR := Hd.mk (Kd.R_mono (ok' := fun k => k ≠ w2.heap.size + 1) (Kd.R_bound hR) (fun k hk => by have := hk.2.2.1; omega)); replace HB := Hd.mk (HB.out.trans (hb.mono HB.out.size)); have hw2 := HB.out.size; clear hR hb)
    | (go_at_call 7; have hb2 := below_two w2 (.cells (exC x A5 c5) 26) (.cells #[.int .i64 0, .int .i64 0, .int .i64 0] 29); obtain ⟨hEb, hFb⟩ := two_blk w2 (exC x A5 c5) #[.int .i64 0, .int .i64 0, .int .i64 0] 26 29; have hbt := HB.out.trans (hb2.mono HB.out.size); (with_reducible refine (hE1.out _ (hP.below hbt)).mono ?_); rintro e w3 ⟨A6, c6, rfl, hR, hb⟩; rw [two_size] at hR; have HE := Hd.mk hEb; have HF := Hd.mk hFb; replace HE := Hd.mk ((hb.block _ (heap_lt' HE.out)).trans HE.out); replace HF := Hd.mk ((hb.block _ (heap_lt' HF.out)).trans HF.out); replace HR := Hd.mk (Kd.R_below HR.out (hb2.trans (hb.mono hb2.size))); have HR6 := Hd.mk (Kd.R_mono (ok' := fun k => k ≠ w2.heap.size + 1) (Kd.R_bound hR) (fun k hk => by have := hk.2.1; omega)); replace HB := Hd.mk (hbt.trans (hb.mono hbt.size)); obtain ⟨e0, e1, e2, e3, e4, e5⟩ := cells6 HE.out; have l0 := heap_lt' HE.out; obtain ⟨⟨u0, u1, u2⟩, hz⟩ := cellsF HF.out; have z0 := hz 0; have z1 := hz 1; have z2 := hz 2; have l1 := heap_lt' HF.out; clear hz; clear hR hb hb2 hbt hEb hFb)
    | (go_at_call 7; have hk := grown_set (grown_set (grown_set (grown_refl w3 (some (w2.heap.size + 1))) 0 (.int .i64 0)) 1 (.int .i64 0)) 2 (.int .i64 0); have hF2 : (((w3.setCell ⟨w2.heap.size + 1, 0, none⟩ (.int .i64 0)).setCell ⟨w2.heap.size + 1, 1, none⟩ (.int .i64 0)).setCell ⟨w2.heap.size + 1, 2, none⟩ (.int .i64 0)).heap[w2.heap.size + 1]? = some (.cells #[.int .i64 0, .int .i64 0, .int .i64 0] 29 (0, 0)) := blk_put (blk_put (blk_put HF.out 0 _ rfl) 1 _ rfl) 2 _ rfl; replace HB := Hd.mk (below_over HB.out hk (by omega)); replace HE := Hd.mk (keep_blk HE.out hk (by omega)); replace HR := Hd.mk (Kd.R_grown HR.out hk (fun q hq e => hq (Option.some.inj e))); replace HR6 := Hd.mk (Kd.R_grown HR6.out hk (fun q hq e => hq (Option.some.inj e))); have hba := below_alloc (Below.refl (((w3.setCell ⟨w2.heap.size + 1, 0, none⟩ (.int .i64 0)).setCell ⟨w2.heap.size + 1, 1, none⟩ (.int .i64 0)).setCell ⟨w2.heap.size + 1, 2, none⟩ (.int .i64 0)).heap.size (((w3.setCell ⟨w2.heap.size + 1, 0, none⟩ (.int .i64 0)).setCell ⟨w2.heap.size + 1, 1, none⟩ (.int .i64 0)).setCell ⟨w2.heap.size + 1, 2, none⟩ (.int .i64 0))) (.cells (exC x A6 c6) 26); have hAb := (NewB.alloc (((w3.setCell ⟨w2.heap.size + 1, 0, none⟩ (.int .i64 0)).setCell ⟨w2.heap.size + 1, 1, none⟩ (.int .i64 0)).setCell ⟨w2.heap.size + 1, 2, none⟩ (.int .i64 0)) (exC x A6 c6) 26).1; have hsz : (((w3.setCell ⟨w2.heap.size + 1, 0, none⟩ (.int .i64 0)).setCell ⟨w2.heap.size + 1, 1, none⟩ (.int .i64 0)).setCell ⟨w2.heap.size + 1, 2, none⟩ (.int .i64 0)).heap.size = w3.heap.size := (by simp only [size_set]); rw [hsz] at hAb; have hbt := HB.out.trans (hba.mono HB.out.size); (with_reducible refine (hE2.out _ (hP.below hbt)).mono ?_); rintro e w4 ⟨A7, c7, rfl, hR, hb⟩; have hbb := hba.trans (hb.mono hba.size); have HF := Hd.mk hF2; have HA := Hd.mk hAb; replace HA := Hd.mk ((hb.block _ (heap_lt' HA.out)).trans HA.out); replace HE := Hd.mk ((hbb.block _ (heap_lt' HE.out)).trans HE.out); replace HF := Hd.mk ((hbb.block _ (heap_lt' HF.out)).trans HF.out); replace HR := Hd.mk (Kd.R_below HR.out hbb); replace HR6 := Hd.mk (Kd.R_below HR6.out hbb); have HR7 := Hd.mk hR; replace HB := Hd.mk (hbt.trans (hb.mono hbt.size)); obtain ⟨e0, e1, e2, e3, e4, e5⟩ := cells6 HE.out; have l0 := heap_lt' HE.out; obtain ⟨a0, a1, a2, a3, a4, a5⟩ := cells6 HA.out; have l2 := heap_lt' HA.out; obtain ⟨⟨u0, u1, u2⟩, hz⟩ := cellsF HF.out; have z0 := hz 0; have z1 := hz 1; have z2 := hz 2; have l1 := heap_lt' HF.out; clear hz; clear hk hF2 hba hAb hsz hbt hbb hR hb)
    | (go_at_call 8; have hb2 := below_two w4 (.cells (exC x A7 c7) 26) (.cells #[.int .i64 0, .int .i64 0, .int .i64 0] 29); obtain ⟨hBb, _⟩ := two_blk w4 (exC x A7 c7) #[.int .i64 0, .int .i64 0, .int .i64 0] 26 29; have hK := A.kitAt_any _ x (Nat.le_refl _) x A6 c6 A5 c5 _ (rowsE_of (Kd.R_below HR6.out hb2)) (rowsE_of (Kd.R_below HR.out hb2)); rw [same_rfl] at hK; (with_reducible refine hK.mono ?_); rintro e w5 ⟨rfl, hb⟩; have HBB := Hd.mk hBb; replace HBB := Hd.mk ((hb.block _ (heap_lt' HBB.out)).trans HBB.out); replace hb := hb2.trans (hb.mono hb2.size); replace HE := Hd.mk ((hb.block _ (heap_lt' HE.out)).trans HE.out); replace HR := Hd.mk (Kd.R_below HR.out hb); replace HR7 := Hd.mk (Kd.R_below HR7.out hb); have hs5 := hb.size; replace HB := Hd.mk (HB.out.trans (hb.mono HB.out.size)); obtain ⟨e0, e1, e2, e3, e4, e5⟩ := cells6 HE.out; have l0 := heap_lt' HE.out; obtain ⟨p0, p1, p2, p3, p4, p5⟩ := cells6 HBB.out; have l3 := heap_lt' HBB.out; clear hb hb2 hBb hK)
    | (go_at_call 8; have hK := A.kitAt_any _ x (Nat.le_refl _) x A7 c7 A5 c5 _ (rowsE_of HR7.out) (rowsE_of HR.out); rw [same_rfl] at hK; (with_reducible refine hK.mono ?_); rintro e w6 ⟨rfl, hb⟩; replace HE := Hd.mk ((hb.block _ (heap_lt' HE.out)).trans HE.out); replace HR := Hd.mk (Kd.R_below HR.out hb); have hs6 := hb.size; replace HB := Hd.mk (HB.out.trans (hb.mono HB.out.size)); obtain ⟨e0, e1, e2, e3, e4, e5⟩ := cells6 HE.out; have l0 := heap_lt' HE.out; clear hb hK)
    | fail)
  have hx6 := R_row1 (e := 26) (Go.Proofs.YtnjnadlgndjnbaaDoor.A.k26_mkM w6 w.heap.size (fun k => k ≠ w2.heap.size + 1) x (Kd.R_lower HR.out (by omega))) (show w6.heap.size ≠ w2.heap.size + 1 by omega) HB.out.size
  have hb2 := below_two w6 (.cells (exC x A5 c5) 26) (.cells #[.string (((⟨#[113, 91]⟩ : ByteArray) ++ s) ++ ⟨#[10, 93]⟩), .int .i64 3, .int .i64 0, .int .i64 0, .int .u32 0, .string ⟨#[113]⟩, .slice (some ⟨w6.heap.size, 0, none⟩) 1 1, .string (((⟨#[113, 40]⟩ : ByteArray) ++ s) ++ ⟨#[10, 41]⟩), .int .i64 4, .int .i64 0, .int .i64 0, .int .u32 0, .string ⟨#[113]⟩, .slice (some ⟨w6.heap.size, 0, none⟩) 1 1, .string (((⟨#[117, 49, 54, 40]⟩ : ByteArray) ++ s) ++ ⟨#[10, 41]⟩), .int .i64 7, .int .i64 0, .int .i64 2, .int .u32 0, .string ⟨#[]⟩, .slice (some ⟨w6.heap.size, 0, none⟩) 1 1, .string (((⟨#[33, 40]⟩ : ByteArray) ++ s) ++ ⟨#[10, 41]⟩), .int .i64 5, .int .i64 3, .int .i64 0, .int .u32 0, .string ⟨#[]⟩, .slice (some ⟨w6.heap.size, 0, none⟩) 1 1] 33)
  obtain ⟨_, hK⟩ := two_blk w6 #[.int .i64 x.f0, .int .i64 x.f1, .int .i64 x.f2, .int .u32 x.f3, .string x.f4, .slice A5 x.f5.length c5] #[.string (((⟨#[113, 91]⟩ : ByteArray) ++ s) ++ ⟨#[10, 93]⟩), .int .i64 3, .int .i64 0, .int .i64 0, .int .u32 0, .string ⟨#[113]⟩, .slice (some ⟨w6.heap.size, 0, none⟩) 1 1, .string (((⟨#[113, 40]⟩ : ByteArray) ++ s) ++ ⟨#[10, 41]⟩), .int .i64 4, .int .i64 0, .int .i64 0, .int .u32 0, .string ⟨#[113]⟩, .slice (some ⟨w6.heap.size, 0, none⟩) 1 1, .string (((⟨#[117, 49, 54, 40]⟩ : ByteArray) ++ s) ++ ⟨#[10, 41]⟩), .int .i64 7, .int .i64 0, .int .i64 2, .int .u32 0, .string ⟨#[]⟩, .slice (some ⟨w6.heap.size, 0, none⟩) 1 1, .string (((⟨#[33, 40]⟩ : ByteArray) ++ s) ++ ⟨#[10, 41]⟩), .int .i64 5, .int .i64 3, .int .i64 0, .int .u32 0, .string ⟨#[]⟩, .slice (some ⟨w6.heap.size, 0, none⟩) 1 1] 26 33
  have hx7 := Kd.R_below hx6 (below_alloc (Below.refl _ _) (.cells #[.string (((⟨#[113, 91]⟩ : ByteArray) ++ s) ++ ⟨#[10, 93]⟩), .int .i64 3, .int .i64 0, .int .i64 0, .int .u32 0, .string ⟨#[113]⟩, .slice (some ⟨w6.heap.size, 0, none⟩) 1 1, .string (((⟨#[113, 40]⟩ : ByteArray) ++ s) ++ ⟨#[10, 41]⟩), .int .i64 4, .int .i64 0, .int .i64 0, .int .u32 0, .string ⟨#[113]⟩, .slice (some ⟨w6.heap.size, 0, none⟩) 1 1, .string (((⟨#[117, 49, 54, 40]⟩ : ByteArray) ++ s) ++ ⟨#[10, 41]⟩), .int .i64 7, .int .i64 0, .int .i64 2, .int .u32 0, .string ⟨#[]⟩, .slice (some ⟨w6.heap.size, 0, none⟩) 1 1, .string (((⟨#[33, 40]⟩ : ByteArray) ++ s) ++ ⟨#[10, 41]⟩), .int .i64 5, .int .i64 3, .int .i64 0, .int .u32 0, .string ⟨#[]⟩, .slice (some ⟨w6.heap.size, 0, none⟩) 1 1] 33))
  change Kd.R kE 26 ((w6.alloc (.cells #[.int .i64 x.f0, .int .i64 x.f1, .int .i64 x.f2, .int .u32 x.f3, .string x.f4, .slice A5 x.f5.length c5] 26)).alloc (.cells #[.string (((⟨#[113, 91]⟩ : ByteArray) ++ s) ++ ⟨#[10, 93]⟩), .int .i64 3, .int .i64 0, .int .i64 0, .int .u32 0, .string ⟨#[113]⟩, .slice (some ⟨w6.heap.size, 0, none⟩) 1 1, .string (((⟨#[113, 40]⟩ : ByteArray) ++ s) ++ ⟨#[10, 41]⟩), .int .i64 4, .int .i64 0, .int .i64 0, .int .u32 0, .string ⟨#[113]⟩, .slice (some ⟨w6.heap.size, 0, none⟩) 1 1, .string (((⟨#[117, 49, 54, 40]⟩ : ByteArray) ++ s) ++ ⟨#[10, 41]⟩), .int .i64 7, .int .i64 0, .int .i64 2, .int .u32 0, .string ⟨#[]⟩, .slice (some ⟨w6.heap.size, 0, none⟩) 1 1, .string (((⟨#[33, 40]⟩ : ByteArray) ++ s) ++ ⟨#[10, 41]⟩), .int .i64 5, .int .i64 3, .int .i64 0, .int .u32 0, .string ⟨#[]⟩, .slice (some ⟨w6.heap.size, 0, none⟩) 1 1] 33)) w.heap.size (fun k => k ≠ w2.heap.size + 1) (.slice (some ⟨w6.heap.size, 0, none⟩) 1 1) [x] at hx7
  have hb7 := HB.out.trans (hb2.mono HB.out.size)
  change Below w.heap.size w ((w6.alloc (.cells #[.int .i64 x.f0, .int .i64 x.f1, .int .i64 x.f2, .int .u32 x.f3, .string x.f4, .slice A5 x.f5.length c5] 26)).alloc (.cells #[.string (((⟨#[113, 91]⟩ : ByteArray) ++ s) ++ ⟨#[10, 93]⟩), .int .i64 3, .int .i64 0, .int .i64 0, .int .u32 0, .string ⟨#[113]⟩, .slice (some ⟨w6.heap.size, 0, none⟩) 1 1, .string (((⟨#[113, 40]⟩ : ByteArray) ++ s) ++ ⟨#[10, 41]⟩), .int .i64 4, .int .i64 0, .int .i64 0, .int .u32 0, .string ⟨#[113]⟩, .slice (some ⟨w6.heap.size, 0, none⟩) 1 1, .string (((⟨#[117, 49, 54, 40]⟩ : ByteArray) ++ s) ++ ⟨#[10, 41]⟩), .int .i64 7, .int .i64 0, .int .i64 2, .int .u32 0, .string ⟨#[]⟩, .slice (some ⟨w6.heap.size, 0, none⟩) 1 1, .string (((⟨#[33, 40]⟩ : ByteArray) ++ s) ++ ⟨#[10, 41]⟩), .int .i64 5, .int .i64 3, .int .i64 0, .int .u32 0, .string ⟨#[]⟩, .slice (some ⟨w6.heap.size, 0, none⟩) 1 1] 33)) at hb7
  generalize ((w6.alloc (.cells #[.int .i64 x.f0, .int .i64 x.f1, .int .i64 x.f2, .int .u32 x.f3, .string x.f4, .slice A5 x.f5.length c5] 26)).alloc (.cells #[.string (((⟨#[113, 91]⟩ : ByteArray) ++ s) ++ ⟨#[10, 93]⟩), .int .i64 3, .int .i64 0, .int .i64 0, .int .u32 0, .string ⟨#[113]⟩, .slice (some ⟨w6.heap.size, 0, none⟩) 1 1, .string (((⟨#[113, 40]⟩ : ByteArray) ++ s) ++ ⟨#[10, 41]⟩), .int .i64 4, .int .i64 0, .int .i64 0, .int .u32 0, .string ⟨#[113]⟩, .slice (some ⟨w6.heap.size, 0, none⟩) 1 1, .string (((⟨#[117, 49, 54, 40]⟩ : ByteArray) ++ s) ++ ⟨#[10, 41]⟩), .int .i64 7, .int .i64 0, .int .i64 2, .int .u32 0, .string ⟨#[]⟩, .slice (some ⟨w6.heap.size, 0, none⟩) 1 1, .string (((⟨#[33, 40]⟩ : ByteArray) ++ s) ++ ⟨#[10, 41]⟩), .int .i64 5, .int .i64 3, .int .i64 0, .int .u32 0, .string ⟨#[]⟩, .slice (some ⟨w6.heap.size, 0, none⟩) 1 1] 33)) = W7 at hx7 hK hb7 ⊢
  have HX := Hd.mk hx7
  have HK := Hd.mk hK
  have HB7 := Hd.mk hb7
  clear hx6 hx7 hK hb7 hb2
  go_loopw [91] (fun t wr => ∃ m : Nat, m ≤ 4 ∧ t = .int .i64 m ∧ Hd (Below W7.heap.size W7 wr)) (fun t _ => 4 - (intOf t).toNat)
  case atStart => exact ⟨0, by omega, rfl, ⟨Below.refl _ _⟩⟩
  case round =>
    obtain ⟨m, hm, rfl, HBr⟩ := hrel
    have hpr := hP.below (HB7.out.trans (HBr.out.mono HB7.out.size))
    have hxr := Hd.mk (Kd.R_below HX.out HBr.out)
    have hKr := (HBr.out.block _ (heap_lt' HK.out)).trans HK.out
    have hlK := heap_lt' hKr
    have hm5 : m = 4 ∨ m = 0 ∨ m = 1 ∨ m = 2 ∨ m = 3 := by omega
    clear hm
    rcases hm5 with rfl | rfl | rfl | rfl | rfl
    · clear hKr hxr hpr
      go_wp2
      go_ret
      exact ⟨rfl, HB7.out.trans (HBr.out.mono HB7.out.size)⟩
    · have k0 : wr.cell? ⟨w6.heap.size + 1, 0, none⟩ = some (.string (((⟨#[113, 91]⟩ : ByteArray) ++ s) ++ ⟨#[10, 93]⟩)) := by simp [World.cell?, hKr]
      have k1 : wr.cell? ⟨w6.heap.size + 1, 1, none⟩ = some (.int .i64 3) := by simp [World.cell?, hKr]
      have k2 : wr.cell? ⟨w6.heap.size + 1, 2, none⟩ = some (.int .i64 0) := by simp [World.cell?, hKr]
      have k3 : wr.cell? ⟨w6.heap.size + 1, 3, none⟩ = some (.int .i64 0) := by simp [World.cell?, hKr]
      have k4 : wr.cell? ⟨w6.heap.size + 1, 4, none⟩ = some (.int .u32 0) := by simp [World.cell?, hKr]
      have k5 : wr.cell? ⟨w6.heap.size + 1, 5, none⟩ = some (.string ⟨#[113]⟩) := by simp [World.cell?, hKr]
      have k6 : wr.cell? ⟨w6.heap.size + 1, 6, none⟩ = some (.slice (some ⟨w6.heap.size, 0, none⟩) 1 1) := by simp [World.cell?, hKr]
      clear hKr
      rcases HG.out.1.2 with hg | hg
      · have hX : Calls Tryd.prog 7 #[.string (((⟨#[113, 91]⟩ : ByteArray) ++ s) ++ ⟨#[10, 93]⟩)] (wr.alloc (.cells #[.string (((⟨#[113, 91]⟩ : ByteArray) ++ s) ++ ⟨#[10, 93]⟩), .int .i64 3, .int .i64 0, .int .i64 0, .int .u32 0, .string ⟨#[113]⟩, .slice (some ⟨w6.heap.size, 0, none⟩) 1 1] 33)) fun e w' => ∃ A5 c5, e = .returned (.tuple #[.agg #[.int .i64 3, .int .i64 0, .int .i64 0, .int .u32 0, .string ⟨#[113]⟩, .slice A5 1 c5], .agg #[.int .i64 0, .int .i64 0, .int .i64 0]]) ∧ Kd.R kE 26 w' (wr.alloc (.cells #[.string (((⟨#[113, 91]⟩ : ByteArray) ++ s) ++ ⟨#[10, 93]⟩), .int .i64 3, .int .i64 0, .int .i64 0, .int .u32 0, .string ⟨#[113]⟩, .slice (some ⟨w6.heap.size, 0, none⟩) 1 1] 33)).heap.size (fun _ => True) (.slice A5 (Fp.eIndex [113] x).f5.length c5) (Fp.eIndex [113] x).f5 ∧ Below (wr.alloc (.cells #[.string (((⟨#[113, 91]⟩ : ByteArray) ++ s) ++ ⟨#[10, 93]⟩), .int .i64 3, .int .i64 0, .int .i64 0, .int .u32 0, .string ⟨#[113]⟩, .slice (some ⟨w6.heap.size, 0, none⟩) 1 1] 33)).heap.size (wr.alloc (.cells #[.string (((⟨#[113, 91]⟩ : ByteArray) ++ s) ++ ⟨#[10, 93]⟩), .int .i64 3, .int .i64 0, .int .i64 0, .int .u32 0, .string ⟨#[113]⟩, .slice (some ⟨w6.heap.size, 0, none⟩) 1 1] 33)) w' := by
          have := Expr_any (((⟨#[113, 91]⟩ : ByteArray) ++ s) ++ ⟨#[10, 93]⟩) (wr.alloc (.cells #[.string (((⟨#[113, 91]⟩ : ByteArray) ++ s) ++ ⟨#[10, 93]⟩), .int .i64 3, .int .i64 0, .int .i64 0, .int .u32 0, .string ⟨#[113]⟩, .slice (some ⟨w6.heap.size, 0, none⟩) 1 1] 33)) (bfit hs (by decide) (by decide)) (hpr.below (below_alloc (Below.refl _ _) _))
          rw [HG.out.1.1, hg] at this
          exact this
        have HXX := Hd.mk hX
        clear hX hg
        go_wp2_with (first
          | (go_at_call 7; (with_reducible refine HXX.out.mono ?_); rintro e w7 ⟨A8, c8, rfl, hR, hb⟩; have hSb := (hb.block _ (heap_lt' (NewB.alloc wr #[.string (((⟨#[113, 91]⟩ : ByteArray) ++ s) ++ ⟨#[10, 93]⟩), .int .i64 3, .int .i64 0, .int .i64 0, .int .u32 0, .string ⟨#[113]⟩, .slice (some ⟨w6.heap.size, 0, none⟩) 1 1] 33).1)).trans (NewB.alloc wr #[.string (((⟨#[113, 91]⟩ : ByteArray) ++ s) ++ ⟨#[10, 93]⟩), .int .i64 3, .int .i64 0, .int .i64 0, .int .u32 0, .string ⟨#[113]⟩, .slice (some ⟨w6.heap.size, 0, none⟩) 1 1] 33).1; have hba := below_alloc (Below.refl wr.heap.size wr) (.cells #[.string (((⟨#[113, 91]⟩ : ByteArray) ++ s) ++ ⟨#[10, 93]⟩), .int .i64 3, .int .i64 0, .int .i64 0, .int .u32 0, .string ⟨#[113]⟩, .slice (some ⟨w6.heap.size, 0, none⟩) 1 1] 33); have HW := Hd.mk (hba.trans (hb.mono hba.size)); have HRR := Hd.mk hR; obtain ⟨s0, s1, s2, s3, s4, s5, s6⟩ := cells7 hSb; have l7 := heap_lt' hSb; clear hR hb hba hSb)
          | (go_at_call 8; have hb2 := below_two w7 (.cells #[.int .i64 3, .int .i64 0, .int .i64 0, .int .u32 0, .string ⟨#[113]⟩, .slice A8 1 c8] 26) (.cells #[.int .i64 0, .int .i64 0, .int .i64 0] 29); have hxw := Kd.R_below hxr.out (HW.out.trans (hb2.mono HW.out.size)); have hK : Calls Tryd.prog 8 #[.agg #[.int .i64 3, .int .i64 0, .int .i64 0, .int .u32 0, .string ⟨#[113]⟩, .slice A8 1 c8], .agg #[.int .i64 3, .int .i64 0, .int .i64 0, .int .u32 0, .string ⟨#[113]⟩, .slice (some ⟨w6.heap.size, 0, none⟩) 1 1]] _ (fun e w' => e = .returned (.bool true) ∧ Below _ _ w') := (same_rfl (Fp.eIndex [113] x)) ▸ A.kitAt_any _ (Fp.eIndex [113] x) (Nat.le_refl _) (Fp.eIndex [113] x) A8 c8 (some ⟨w6.heap.size, 0, none⟩) 1 _ (rowsE_of (x := Fp.eIndex [113] x) (Kd.R_below HRR.out hb2)) (rowsE_of (x := Fp.eIndex [113] x) hxw); (with_reducible refine hK.mono ?_); rintro e w8 ⟨rfl, hb⟩; replace HW := Hd.mk ((HW.out.trans (hb2.mono HW.out.size)).trans (hb.mono (Nat.le_trans HW.out.size hb2.size))); clear hb hb2 hK hxw)
          | fail)
        exact ⟨⟨1, by omega, rfl, ⟨HBr.out.trans (HW.out.mono HBr.out.size)⟩⟩, by simp [intOf]⟩
      · have hX : Calls Tryd.prog 7 #[.string (((⟨#[113, 91]⟩ : ByteArray) ++ s) ++ ⟨#[10, 93]⟩)] (wr.alloc (.cells #[.string (((⟨#[113, 91]⟩ : ByteArray) ++ s) ++ ⟨#[10, 93]⟩), .int .i64 3, .int .i64 0, .int .i64 0, .int .u32 0, .string ⟨#[113]⟩, .slice (some ⟨w6.heap.size, 0, none⟩) 1 1] 33)) fun e w' => ∃ A5 c5, e = .returned (.tuple #[.agg #[.int .i64 0, .int .i64 0, .int .i64 0, .int .u32 0, .string ⟨#[]⟩, .slice A5 0 c5], .agg #[.int .i64 3, .int .i64 0, .int .i64 0]]) ∧ Kd.R kE 26 w' (wr.alloc (.cells #[.string (((⟨#[113, 91]⟩ : ByteArray) ++ s) ++ ⟨#[10, 93]⟩), .int .i64 3, .int .i64 0, .int .i64 0, .int .u32 0, .string ⟨#[113]⟩, .slice (some ⟨w6.heap.size, 0, none⟩) 1 1] 33)).heap.size (fun _ => True) (.slice A5 (zE0).f5.length c5) (zE0).f5 ∧ Below (wr.alloc (.cells #[.string (((⟨#[113, 91]⟩ : ByteArray) ++ s) ++ ⟨#[10, 93]⟩), .int .i64 3, .int .i64 0, .int .i64 0, .int .u32 0, .string ⟨#[113]⟩, .slice (some ⟨w6.heap.size, 0, none⟩) 1 1] 33)).heap.size (wr.alloc (.cells #[.string (((⟨#[113, 91]⟩ : ByteArray) ++ s) ++ ⟨#[10, 93]⟩), .int .i64 3, .int .i64 0, .int .i64 0, .int .u32 0, .string ⟨#[113]⟩, .slice (some ⟨w6.heap.size, 0, none⟩) 1 1] 33)) w' := by
          have := Expr_any (((⟨#[113, 91]⟩ : ByteArray) ++ s) ++ ⟨#[10, 93]⟩) (wr.alloc (.cells #[.string (((⟨#[113, 91]⟩ : ByteArray) ++ s) ++ ⟨#[10, 93]⟩), .int .i64 3, .int .i64 0, .int .i64 0, .int .u32 0, .string ⟨#[113]⟩, .slice (some ⟨w6.heap.size, 0, none⟩) 1 1] 33)) (bfit hs (by decide) (by decide)) (hpr.below (below_alloc (Below.refl _ _) _))
          rw [HG.out.1.1, hg] at this
          exact this
        have HXX := Hd.mk hX
        clear hX hg
        go_wp2_with (first
          | (go_at_call 7; (with_reducible refine HXX.out.mono ?_); rintro e w7 ⟨A8, c8, rfl, hR, hb⟩; have hSb := (hb.block _ (heap_lt' (NewB.alloc wr #[.string (((⟨#[113, 91]⟩ : ByteArray) ++ s) ++ ⟨#[10, 93]⟩), .int .i64 3, .int .i64 0, .int .i64 0, .int .u32 0, .string ⟨#[113]⟩, .slice (some ⟨w6.heap.size, 0, none⟩) 1 1] 33).1)).trans (NewB.alloc wr #[.string (((⟨#[113, 91]⟩ : ByteArray) ++ s) ++ ⟨#[10, 93]⟩), .int .i64 3, .int .i64 0, .int .i64 0, .int .u32 0, .string ⟨#[113]⟩, .slice (some ⟨w6.heap.size, 0, none⟩) 1 1] 33).1; have hba := below_alloc (Below.refl wr.heap.size wr) (.cells #[.string (((⟨#[113, 91]⟩ : ByteArray) ++ s) ++ ⟨#[10, 93]⟩), .int .i64 3, .int .i64 0, .int .i64 0, .int .u32 0, .string ⟨#[113]⟩, .slice (some ⟨w6.heap.size, 0, none⟩) 1 1] 33); have HW := Hd.mk (hba.trans (hb.mono hba.size)); have HRR := Hd.mk hR; obtain ⟨s0, s1, s2, s3, s4, s5, s6⟩ := cells7 hSb; have l7 := heap_lt' hSb; clear hR hb hba hSb)
          | fail)
        exact ⟨⟨1, by omega, rfl, ⟨HBr.out.trans ((HW.out.trans ((below_two w7 _ _).mono HW.out.size)).mono HBr.out.size)⟩⟩, by simp [intOf]⟩
    · have k0 : wr.cell? ⟨w6.heap.size + 1, 7, none⟩ = some (.string (((⟨#[113, 40]⟩ : ByteArray) ++ s) ++ ⟨#[10, 41]⟩)) := by simp [World.cell?, hKr]
      have k1 : wr.cell? ⟨w6.heap.size + 1, 8, none⟩ = some (.int .i64 4) := by simp [World.cell?, hKr]
      have k2 : wr.cell? ⟨w6.heap.size + 1, 9, none⟩ = some (.int .i64 0) := by simp [World.cell?, hKr]
      have k3 : wr.cell? ⟨w6.heap.size + 1, 10, none⟩ = some (.int .i64 0) := by simp [World.cell?, hKr]
      have k4 : wr.cell? ⟨w6.heap.size + 1, 11, none⟩ = some (.int .u32 0) := by simp [World.cell?, hKr]
      have k5 : wr.cell? ⟨w6.heap.size + 1, 12, none⟩ = some (.string ⟨#[113]⟩) := by simp [World.cell?, hKr]
      have k6 : wr.cell? ⟨w6.heap.size + 1, 13, none⟩ = some (.slice (some ⟨w6.heap.size, 0, none⟩) 1 1) := by simp [World.cell?, hKr]
      clear hKr
      rcases HG.out.2.1.2 with hg | hg
      · have hX : Calls Tryd.prog 7 #[.string (((⟨#[113, 40]⟩ : ByteArray) ++ s) ++ ⟨#[10, 41]⟩)] (wr.alloc (.cells #[.string (((⟨#[113, 40]⟩ : ByteArray) ++ s) ++ ⟨#[10, 41]⟩), .int .i64 4, .int .i64 0, .int .i64 0, .int .u32 0, .string ⟨#[113]⟩, .slice (some ⟨w6.heap.size, 0, none⟩) 1 1] 33)) fun e w' => ∃ A5 c5, e = .returned (.tuple #[.agg #[.int .i64 4, .int .i64 0, .int .i64 0, .int .u32 0, .string ⟨#[113]⟩, .slice A5 1 c5], .agg #[.int .i64 0, .int .i64 0, .int .i64 0]]) ∧ Kd.R kE 26 w' (wr.alloc (.cells #[.string (((⟨#[113, 40]⟩ : ByteArray) ++ s) ++ ⟨#[10, 41]⟩), .int .i64 4, .int .i64 0, .int .i64 0, .int .u32 0, .string ⟨#[113]⟩, .slice (some ⟨w6.heap.size, 0, none⟩) 1 1] 33)).heap.size (fun _ => True) (.slice A5 (Fp.eCall [113] [x]).f5.length c5) (Fp.eCall [113] [x]).f5 ∧ Below (wr.alloc (.cells #[.string (((⟨#[113, 40]⟩ : ByteArray) ++ s) ++ ⟨#[10, 41]⟩), .int .i64 4, .int .i64 0, .int .i64 0, .int .u32 0, .string ⟨#[113]⟩, .slice (some ⟨w6.heap.size, 0, none⟩) 1 1] 33)).heap.size (wr.alloc (.cells #[.string (((⟨#[113, 40]⟩ : ByteArray) ++ s) ++ ⟨#[10, 41]⟩), .int .i64 4, .int .i64 0, .int .i64 0, .int .u32 0, .string ⟨#[113]⟩, .slice (some ⟨w6.heap.size, 0, none⟩) 1 1] 33)) w' := by
          have := Expr_any (((⟨#[113, 40]⟩ : ByteArray) ++ s) ++ ⟨#[10, 41]⟩) (wr.alloc (.cells #[.string (((⟨#[113, 40]⟩ : ByteArray) ++ s) ++ ⟨#[10, 41]⟩), .int .i64 4, .int .i64 0, .int .i64 0, .int .u32 0, .string ⟨#[113]⟩, .slice (some ⟨w6.heap.size, 0, none⟩) 1 1] 33)) (bfit hs (by decide) (by decide)) (hpr.below (below_alloc (Below.refl _ _) _))
          rw [HG.out.2.1.1, hg] at this
          exact this
        have HXX := Hd.mk hX
        clear hX hg
        go_wp2_with (first
          | (go_at_call 7; (with_reducible refine HXX.out.mono ?_); rintro e w7 ⟨A8, c8, rfl, hR, hb⟩; have hSb := (hb.block _ (heap_lt' (NewB.alloc wr #[.string (((⟨#[113, 40]⟩ : ByteArray) ++ s) ++ ⟨#[10, 41]⟩), .int .i64 4, .int .i64 0, .int .i64 0, .int .u32 0, .string ⟨#[113]⟩, .slice (some ⟨w6.heap.size, 0, none⟩) 1 1] 33).1)).trans (NewB.alloc wr #[.string (((⟨#[113, 40]⟩ : ByteArray) ++ s) ++ ⟨#[10, 41]⟩), .int .i64 4, .int .i64 0, .int .i64 0, .int .u32 0, .string ⟨#[113]⟩, .slice (some ⟨w6.heap.size, 0, none⟩) 1 1] 33).1; have hba := below_alloc (Below.refl wr.heap.size wr) (.cells #[.string (((⟨#[113, 40]⟩ : ByteArray) ++ s) ++ ⟨#[10, 41]⟩), .int .i64 4, .int .i64 0, .int .i64 0, .int .u32 0, .string ⟨#[113]⟩, .slice (some ⟨w6.heap.size, 0, none⟩) 1 1] 33); have HW := Hd.mk (hba.trans (hb.mono hba.size)); have HRR := Hd.mk hR; obtain ⟨s0, s1, s2, s3, s4, s5, s6⟩ := cells7 hSb; have l7 := heap_lt' hSb; clear hR hb hba hSb)
          | (go_at_call 8; have hb2 := below_two w7 (.cells #[.int .i64 4, .int .i64 0, .int .i64 0, .int .u32 0, .string ⟨#[113]⟩, .slice A8 1 c8] 26) (.cells #[.int .i64 0, .int .i64 0, .int .i64 0] 29); have hxw := Kd.R_below hxr.out (HW.out.trans (hb2.mono HW.out.size)); have hK : Calls Tryd.prog 8 #[.agg #[.int .i64 4, .int .i64 0, .int .i64 0, .int .u32 0, .string ⟨#[113]⟩, .slice A8 1 c8], .agg #[.int .i64 4, .int .i64 0, .int .i64 0, .int .u32 0, .string ⟨#[113]⟩, .slice (some ⟨w6.heap.size, 0, none⟩) 1 1]] _ (fun e w' => e = .returned (.bool true) ∧ Below _ _ w') := (same_rfl (Fp.eCall [113] [x])) ▸ A.kitAt_any _ (Fp.eCall [113] [x]) (Nat.le_refl _) (Fp.eCall [113] [x]) A8 c8 (some ⟨w6.heap.size, 0, none⟩) 1 _ (rowsE_of (x := Fp.eCall [113] [x]) (Kd.R_below HRR.out hb2)) (rowsE_of (x := Fp.eCall [113] [x]) hxw); (with_reducible refine hK.mono ?_); rintro e w8 ⟨rfl, hb⟩; replace HW := Hd.mk ((HW.out.trans (hb2.mono HW.out.size)).trans (hb.mono (Nat.le_trans HW.out.size hb2.size))); clear hb hb2 hK hxw)
          | fail)
        exact ⟨⟨2, by omega, rfl, ⟨HBr.out.trans (HW.out.mono HBr.out.size)⟩⟩, by simp [intOf]⟩
      · have hX : Calls Tryd.prog 7 #[.string (((⟨#[113, 40]⟩ : ByteArray) ++ s) ++ ⟨#[10, 41]⟩)] (wr.alloc (.cells #[.string (((⟨#[113, 40]⟩ : ByteArray) ++ s) ++ ⟨#[10, 41]⟩), .int .i64 4, .int .i64 0, .int .i64 0, .int .u32 0, .string ⟨#[113]⟩, .slice (some ⟨w6.heap.size, 0, none⟩) 1 1] 33)) fun e w' => ∃ A5 c5, e = .returned (.tuple #[.agg #[.int .i64 0, .int .i64 0, .int .i64 0, .int .u32 0, .string ⟨#[]⟩, .slice A5 0 c5], .agg #[.int .i64 3, .int .i64 0, .int .i64 0]]) ∧ Kd.R kE 26 w' (wr.alloc (.cells #[.string (((⟨#[113, 40]⟩ : ByteArray) ++ s) ++ ⟨#[10, 41]⟩), .int .i64 4, .int .i64 0, .int .i64 0, .int .u32 0, .string ⟨#[113]⟩, .slice (some ⟨w6.heap.size, 0, none⟩) 1 1] 33)).heap.size (fun _ => True) (.slice A5 (zE0).f5.length c5) (zE0).f5 ∧ Below (wr.alloc (.cells #[.string (((⟨#[113, 40]⟩ : ByteArray) ++ s) ++ ⟨#[10, 41]⟩), .int .i64 4, .int .i64 0, .int .i64 0, .int .u32 0, .string ⟨#[113]⟩, .slice (some ⟨w6.heap.size, 0, none⟩) 1 1] 33)).heap.size (wr.alloc (.cells #[.string (((⟨#[113, 40]⟩ : ByteArray) ++ s) ++ ⟨#[10, 41]⟩), .int .i64 4, .int .i64 0, .int .i64 0, .int .u32 0, .string ⟨#[113]⟩, .slice (some ⟨w6.heap.size, 0, none⟩) 1 1] 33)) w' := by
          have := Expr_any (((⟨#[113, 40]⟩ : ByteArray) ++ s) ++ ⟨#[10, 41]⟩) (wr.alloc (.cells #[.string (((⟨#[113, 40]⟩ : ByteArray) ++ s) ++ ⟨#[10, 41]⟩), .int .i64 4, .int .i64 0, .int .i64 0, .int .u32 0, .string ⟨#[113]⟩, .slice (some ⟨w6.heap.size, 0, none⟩) 1 1] 33)) (bfit hs (by decide) (by decide)) (hpr.below (below_alloc (Below.refl _ _) _))
          rw [HG.out.2.1.1, hg] at this
          exact this
        have HXX := Hd.mk hX
        clear hX hg
        go_wp2_with (first
          | (go_at_call 7; (with_reducible refine HXX.out.mono ?_); rintro e w7 ⟨A8, c8, rfl, hR, hb⟩; have hSb := (hb.block _ (heap_lt' (NewB.alloc wr #[.string (((⟨#[113, 40]⟩ : ByteArray) ++ s) ++ ⟨#[10, 41]⟩), .int .i64 4, .int .i64 0, .int .i64 0, .int .u32 0, .string ⟨#[113]⟩, .slice (some ⟨w6.heap.size, 0, none⟩) 1 1] 33).1)).trans (NewB.alloc wr #[.string (((⟨#[113, 40]⟩ : ByteArray) ++ s) ++ ⟨#[10, 41]⟩), .int .i64 4, .int .i64 0, .int .i64 0, .int .u32 0, .string ⟨#[113]⟩, .slice (some ⟨w6.heap.size, 0, none⟩) 1 1] 33).1; have hba := below_alloc (Below.refl wr.heap.size wr) (.cells #[.string (((⟨#[113, 40]⟩ : ByteArray) ++ s) ++ ⟨#[10, 41]⟩), .int .i64 4, .int .i64 0, .int .i64 0, .int .u32 0, .string ⟨#[113]⟩, .slice (some ⟨w6.heap.size, 0, none⟩) 1 1] 33); have HW := Hd.mk (hba.trans (hb.mono hba.size)); have HRR := Hd.mk hR; obtain ⟨s0, s1, s2, s3, s4, s5, s6⟩ := cells7 hSb; have l7 := heap_lt' hSb; clear hR hb hba hSb)
          | fail)
        exact ⟨⟨2, by omega, rfl, ⟨HBr.out.trans ((HW.out.trans ((below_two w7 _ _).mono HW.out.size)).mono HBr.out.size)⟩⟩, by simp [intOf]⟩
    · have k0 : wr.cell? ⟨w6.heap.size + 1, 14, none⟩ = some (.string (((⟨#[117, 49, 54, 40]⟩ : ByteArray) ++ s) ++ ⟨#[10, 41]⟩)) := by simp [World.cell?, hKr]
      have k1 : wr.cell? ⟨w6.heap.size + 1, 15, none⟩ = some (.int .i64 7) := by simp [World.cell?, hKr]
      have k2 : wr.cell? ⟨w6.heap.size + 1, 16, none⟩ = some (.int .i64 0) := by simp [World.cell?, hKr]
      have k3 : wr.cell? ⟨w6.heap.size + 1, 17, none⟩ = some (.int .i64 2) := by simp [World.cell?, hKr]
      have k4 : wr.cell? ⟨w6.heap.size + 1, 18, none⟩ = some (.int .u32 0) := by simp [World.cell?, hKr]
      have k5 : wr.cell? ⟨w6.heap.size + 1, 19, none⟩ = some (.string ⟨#[]⟩) := by simp [World.cell?, hKr]
      have k6 : wr.cell? ⟨w6.heap.size + 1, 20, none⟩ = some (.slice (some ⟨w6.heap.size, 0, none⟩) 1 1) := by simp [World.cell?, hKr]
      clear hKr
      rcases HG.out.2.2.1.2 with hg | hg
      · have hX : Calls Tryd.prog 7 #[.string (((⟨#[117, 49, 54, 40]⟩ : ByteArray) ++ s) ++ ⟨#[10, 41]⟩)] (wr.alloc (.cells #[.string (((⟨#[117, 49, 54, 40]⟩ : ByteArray) ++ s) ++ ⟨#[10, 41]⟩), .int .i64 7, .int .i64 0, .int .i64 2, .int .u32 0, .string ⟨#[]⟩, .slice (some ⟨w6.heap.size, 0, none⟩) 1 1] 33)) fun e w' => ∃ A5 c5, e = .returned (.tuple #[.agg #[.int .i64 7, .int .i64 0, .int .i64 2, .int .u32 0, .string ⟨#[]⟩, .slice A5 1 c5], .agg #[.int .i64 0, .int .i64 0, .int .i64 0]]) ∧ Kd.R kE 26 w' (wr.alloc (.cells #[.string (((⟨#[117, 49, 54, 40]⟩ : ByteArray) ++ s) ++ ⟨#[10, 41]⟩), .int .i64 7, .int .i64 0, .int .i64 2, .int .u32 0, .string ⟨#[]⟩, .slice (some ⟨w6.heap.size, 0, none⟩) 1 1] 33)).heap.size (fun _ => True) (.slice A5 (Fp.eCast 2 x).f5.length c5) (Fp.eCast 2 x).f5 ∧ Below (wr.alloc (.cells #[.string (((⟨#[117, 49, 54, 40]⟩ : ByteArray) ++ s) ++ ⟨#[10, 41]⟩), .int .i64 7, .int .i64 0, .int .i64 2, .int .u32 0, .string ⟨#[]⟩, .slice (some ⟨w6.heap.size, 0, none⟩) 1 1] 33)).heap.size (wr.alloc (.cells #[.string (((⟨#[117, 49, 54, 40]⟩ : ByteArray) ++ s) ++ ⟨#[10, 41]⟩), .int .i64 7, .int .i64 0, .int .i64 2, .int .u32 0, .string ⟨#[]⟩, .slice (some ⟨w6.heap.size, 0, none⟩) 1 1] 33)) w' := by
          have := Expr_any (((⟨#[117, 49, 54, 40]⟩ : ByteArray) ++ s) ++ ⟨#[10, 41]⟩) (wr.alloc (.cells #[.string (((⟨#[117, 49, 54, 40]⟩ : ByteArray) ++ s) ++ ⟨#[10, 41]⟩), .int .i64 7, .int .i64 0, .int .i64 2, .int .u32 0, .string ⟨#[]⟩, .slice (some ⟨w6.heap.size, 0, none⟩) 1 1] 33)) (bfit hs (by decide) (by decide)) (hpr.below (below_alloc (Below.refl _ _) _))
          rw [HG.out.2.2.1.1, hg] at this
          exact this
        have HXX := Hd.mk hX
        clear hX hg
        go_wp2_with (first
          | (go_at_call 7; (with_reducible refine HXX.out.mono ?_); rintro e w7 ⟨A8, c8, rfl, hR, hb⟩; have hSb := (hb.block _ (heap_lt' (NewB.alloc wr #[.string (((⟨#[117, 49, 54, 40]⟩ : ByteArray) ++ s) ++ ⟨#[10, 41]⟩), .int .i64 7, .int .i64 0, .int .i64 2, .int .u32 0, .string ⟨#[]⟩, .slice (some ⟨w6.heap.size, 0, none⟩) 1 1] 33).1)).trans (NewB.alloc wr #[.string (((⟨#[117, 49, 54, 40]⟩ : ByteArray) ++ s) ++ ⟨#[10, 41]⟩), .int .i64 7, .int .i64 0, .int .i64 2, .int .u32 0, .string ⟨#[]⟩, .slice (some ⟨w6.heap.size, 0, none⟩) 1 1] 33).1; have hba := below_alloc (Below.refl wr.heap.size wr) (.cells #[.string (((⟨#[117, 49, 54, 40]⟩ : ByteArray) ++ s) ++ ⟨#[10, 41]⟩), .int .i64 7, .int .i64 0, .int .i64 2, .int .u32 0, .string ⟨#[]⟩, .slice (some ⟨w6.heap.size, 0, none⟩) 1 1] 33); have HW := Hd.mk (hba.trans (hb.mono hba.size)); have HRR := Hd.mk hR; obtain ⟨s0, s1, s2, s3, s4, s5, s6⟩ := cells7 hSb; have l7 := heap_lt' hSb; clear hR hb hba hSb)
          | (go_at_call 8; have hb2 := below_two w7 (.cells #[.int .i64 7, .int .i64 0, .int .i64 2, .int .u32 0, .string ⟨#[]⟩, .slice A8 1 c8] 26) (.cells #[.int .i64 0, .int .i64 0, .int .i64 0] 29); have hxw := Kd.R_below hxr.out (HW.out.trans (hb2.mono HW.out.size)); have hK : Calls Tryd.prog 8 #[.agg #[.int .i64 7, .int .i64 0, .int .i64 2, .int .u32 0, .string ⟨#[]⟩, .slice A8 1 c8], .agg #[.int .i64 7, .int .i64 0, .int .i64 2, .int .u32 0, .string ⟨#[]⟩, .slice (some ⟨w6.heap.size, 0, none⟩) 1 1]] _ (fun e w' => e = .returned (.bool true) ∧ Below _ _ w') := (same_rfl (Fp.eCast 2 x)) ▸ A.kitAt_any _ (Fp.eCast 2 x) (Nat.le_refl _) (Fp.eCast 2 x) A8 c8 (some ⟨w6.heap.size, 0, none⟩) 1 _ (rowsE_of (x := Fp.eCast 2 x) (Kd.R_below HRR.out hb2)) (rowsE_of (x := Fp.eCast 2 x) hxw); (with_reducible refine hK.mono ?_); rintro e w8 ⟨rfl, hb⟩; replace HW := Hd.mk ((HW.out.trans (hb2.mono HW.out.size)).trans (hb.mono (Nat.le_trans HW.out.size hb2.size))); clear hb hb2 hK hxw)
          | fail)
        exact ⟨⟨3, by omega, rfl, ⟨HBr.out.trans (HW.out.mono HBr.out.size)⟩⟩, by simp [intOf]⟩
      · have hX : Calls Tryd.prog 7 #[.string (((⟨#[117, 49, 54, 40]⟩ : ByteArray) ++ s) ++ ⟨#[10, 41]⟩)] (wr.alloc (.cells #[.string (((⟨#[117, 49, 54, 40]⟩ : ByteArray) ++ s) ++ ⟨#[10, 41]⟩), .int .i64 7, .int .i64 0, .int .i64 2, .int .u32 0, .string ⟨#[]⟩, .slice (some ⟨w6.heap.size, 0, none⟩) 1 1] 33)) fun e w' => ∃ A5 c5, e = .returned (.tuple #[.agg #[.int .i64 0, .int .i64 0, .int .i64 0, .int .u32 0, .string ⟨#[]⟩, .slice A5 0 c5], .agg #[.int .i64 3, .int .i64 0, .int .i64 0]]) ∧ Kd.R kE 26 w' (wr.alloc (.cells #[.string (((⟨#[117, 49, 54, 40]⟩ : ByteArray) ++ s) ++ ⟨#[10, 41]⟩), .int .i64 7, .int .i64 0, .int .i64 2, .int .u32 0, .string ⟨#[]⟩, .slice (some ⟨w6.heap.size, 0, none⟩) 1 1] 33)).heap.size (fun _ => True) (.slice A5 (zE0).f5.length c5) (zE0).f5 ∧ Below (wr.alloc (.cells #[.string (((⟨#[117, 49, 54, 40]⟩ : ByteArray) ++ s) ++ ⟨#[10, 41]⟩), .int .i64 7, .int .i64 0, .int .i64 2, .int .u32 0, .string ⟨#[]⟩, .slice (some ⟨w6.heap.size, 0, none⟩) 1 1] 33)).heap.size (wr.alloc (.cells #[.string (((⟨#[117, 49, 54, 40]⟩ : ByteArray) ++ s) ++ ⟨#[10, 41]⟩), .int .i64 7, .int .i64 0, .int .i64 2, .int .u32 0, .string ⟨#[]⟩, .slice (some ⟨w6.heap.size, 0, none⟩) 1 1] 33)) w' := by
          have := Expr_any (((⟨#[117, 49, 54, 40]⟩ : ByteArray) ++ s) ++ ⟨#[10, 41]⟩) (wr.alloc (.cells #[.string (((⟨#[117, 49, 54, 40]⟩ : ByteArray) ++ s) ++ ⟨#[10, 41]⟩), .int .i64 7, .int .i64 0, .int .i64 2, .int .u32 0, .string ⟨#[]⟩, .slice (some ⟨w6.heap.size, 0, none⟩) 1 1] 33)) (bfit hs (by decide) (by decide)) (hpr.below (below_alloc (Below.refl _ _) _))
          rw [HG.out.2.2.1.1, hg] at this
          exact this
        have HXX := Hd.mk hX
        clear hX hg
        go_wp2_with (first
          | (go_at_call 7; (with_reducible refine HXX.out.mono ?_); rintro e w7 ⟨A8, c8, rfl, hR, hb⟩; have hSb := (hb.block _ (heap_lt' (NewB.alloc wr #[.string (((⟨#[117, 49, 54, 40]⟩ : ByteArray) ++ s) ++ ⟨#[10, 41]⟩), .int .i64 7, .int .i64 0, .int .i64 2, .int .u32 0, .string ⟨#[]⟩, .slice (some ⟨w6.heap.size, 0, none⟩) 1 1] 33).1)).trans (NewB.alloc wr #[.string (((⟨#[117, 49, 54, 40]⟩ : ByteArray) ++ s) ++ ⟨#[10, 41]⟩), .int .i64 7, .int .i64 0, .int .i64 2, .int .u32 0, .string ⟨#[]⟩, .slice (some ⟨w6.heap.size, 0, none⟩) 1 1] 33).1; have hba := below_alloc (Below.refl wr.heap.size wr) (.cells #[.string (((⟨#[117, 49, 54, 40]⟩ : ByteArray) ++ s) ++ ⟨#[10, 41]⟩), .int .i64 7, .int .i64 0, .int .i64 2, .int .u32 0, .string ⟨#[]⟩, .slice (some ⟨w6.heap.size, 0, none⟩) 1 1] 33); have HW := Hd.mk (hba.trans (hb.mono hba.size)); have HRR := Hd.mk hR; obtain ⟨s0, s1, s2, s3, s4, s5, s6⟩ := cells7 hSb; have l7 := heap_lt' hSb; clear hR hb hba hSb)
          | fail)
        exact ⟨⟨3, by omega, rfl, ⟨HBr.out.trans ((HW.out.trans ((below_two w7 _ _).mono HW.out.size)).mono HBr.out.size)⟩⟩, by simp [intOf]⟩
    · have k0 : wr.cell? ⟨w6.heap.size + 1, 21, none⟩ = some (.string (((⟨#[33, 40]⟩ : ByteArray) ++ s) ++ ⟨#[10, 41]⟩)) := by simp [World.cell?, hKr]
      have k1 : wr.cell? ⟨w6.heap.size + 1, 22, none⟩ = some (.int .i64 5) := by simp [World.cell?, hKr]
      have k2 : wr.cell? ⟨w6.heap.size + 1, 23, none⟩ = some (.int .i64 3) := by simp [World.cell?, hKr]
      have k3 : wr.cell? ⟨w6.heap.size + 1, 24, none⟩ = some (.int .i64 0) := by simp [World.cell?, hKr]
      have k4 : wr.cell? ⟨w6.heap.size + 1, 25, none⟩ = some (.int .u32 0) := by simp [World.cell?, hKr]
      have k5 : wr.cell? ⟨w6.heap.size + 1, 26, none⟩ = some (.string ⟨#[]⟩) := by simp [World.cell?, hKr]
      have k6 : wr.cell? ⟨w6.heap.size + 1, 27, none⟩ = some (.slice (some ⟨w6.heap.size, 0, none⟩) 1 1) := by simp [World.cell?, hKr]
      clear hKr
      rcases HG.out.2.2.2.2 with hg | hg
      · have hX : Calls Tryd.prog 7 #[.string (((⟨#[33, 40]⟩ : ByteArray) ++ s) ++ ⟨#[10, 41]⟩)] (wr.alloc (.cells #[.string (((⟨#[33, 40]⟩ : ByteArray) ++ s) ++ ⟨#[10, 41]⟩), .int .i64 5, .int .i64 3, .int .i64 0, .int .u32 0, .string ⟨#[]⟩, .slice (some ⟨w6.heap.size, 0, none⟩) 1 1] 33)) fun e w' => ∃ A5 c5, e = .returned (.tuple #[.agg #[.int .i64 5, .int .i64 3, .int .i64 0, .int .u32 0, .string ⟨#[]⟩, .slice A5 1 c5], .agg #[.int .i64 0, .int .i64 0, .int .i64 0]]) ∧ Kd.R kE 26 w' (wr.alloc (.cells #[.string (((⟨#[33, 40]⟩ : ByteArray) ++ s) ++ ⟨#[10, 41]⟩), .int .i64 5, .int .i64 3, .int .i64 0, .int .u32 0, .string ⟨#[]⟩, .slice (some ⟨w6.heap.size, 0, none⟩) 1 1] 33)).heap.size (fun _ => True) (.slice A5 (Fp.eUn 3 x).f5.length c5) (Fp.eUn 3 x).f5 ∧ Below (wr.alloc (.cells #[.string (((⟨#[33, 40]⟩ : ByteArray) ++ s) ++ ⟨#[10, 41]⟩), .int .i64 5, .int .i64 3, .int .i64 0, .int .u32 0, .string ⟨#[]⟩, .slice (some ⟨w6.heap.size, 0, none⟩) 1 1] 33)).heap.size (wr.alloc (.cells #[.string (((⟨#[33, 40]⟩ : ByteArray) ++ s) ++ ⟨#[10, 41]⟩), .int .i64 5, .int .i64 3, .int .i64 0, .int .u32 0, .string ⟨#[]⟩, .slice (some ⟨w6.heap.size, 0, none⟩) 1 1] 33)) w' := by
          have := Expr_any (((⟨#[33, 40]⟩ : ByteArray) ++ s) ++ ⟨#[10, 41]⟩) (wr.alloc (.cells #[.string (((⟨#[33, 40]⟩ : ByteArray) ++ s) ++ ⟨#[10, 41]⟩), .int .i64 5, .int .i64 3, .int .i64 0, .int .u32 0, .string ⟨#[]⟩, .slice (some ⟨w6.heap.size, 0, none⟩) 1 1] 33)) (bfit hs (by decide) (by decide)) (hpr.below (below_alloc (Below.refl _ _) _))
          rw [HG.out.2.2.2.1, hg] at this
          exact this
        have HXX := Hd.mk hX
        clear hX hg
        go_wp2_with (first
          | (go_at_call 7; (with_reducible refine HXX.out.mono ?_); rintro e w7 ⟨A8, c8, rfl, hR, hb⟩; have hSb := (hb.block _ (heap_lt' (NewB.alloc wr #[.string (((⟨#[33, 40]⟩ : ByteArray) ++ s) ++ ⟨#[10, 41]⟩), .int .i64 5, .int .i64 3, .int .i64 0, .int .u32 0, .string ⟨#[]⟩, .slice (some ⟨w6.heap.size, 0, none⟩) 1 1] 33).1)).trans (NewB.alloc wr #[.string (((⟨#[33, 40]⟩ : ByteArray) ++ s) ++ ⟨#[10, 41]⟩), .int .i64 5, .int .i64 3, .int .i64 0, .int .u32 0, .string ⟨#[]⟩, .slice (some ⟨w6.heap.size, 0, none⟩) 1 1] 33).1; have hba := below_alloc (Below.refl wr.heap.size wr) (.cells #[.string (((⟨#[33, 40]⟩ : ByteArray) ++ s) ++ ⟨#[10, 41]⟩), .int .i64 5, .int .i64 3, .int .i64 0, .int .u32 0, .string ⟨#[]⟩, .slice (some ⟨w6.heap.size, 0, none⟩) 1 1] 33); have HW := Hd.mk (hba.trans (hb.mono hba.size)); have HRR := Hd.mk hR; obtain ⟨s0, s1, s2, s3, s4, s5, s6⟩ := cells7 hSb; have l7 := heap_lt' hSb; clear hR hb hba hSb)
          | (go_at_call 8; have hb2 := below_two w7 (.cells #[.int .i64 5, .int .i64 3, .int .i64 0, .int .u32 0, .string ⟨#[]⟩, .slice A8 1 c8] 26) (.cells #[.int .i64 0, .int .i64 0, .int .i64 0] 29); have hxw := Kd.R_below hxr.out (HW.out.trans (hb2.mono HW.out.size)); have hK : Calls Tryd.prog 8 #[.agg #[.int .i64 5, .int .i64 3, .int .i64 0, .int .u32 0, .string ⟨#[]⟩, .slice A8 1 c8], .agg #[.int .i64 5, .int .i64 3, .int .i64 0, .int .u32 0, .string ⟨#[]⟩, .slice (some ⟨w6.heap.size, 0, none⟩) 1 1]] _ (fun e w' => e = .returned (.bool true) ∧ Below _ _ w') := (same_rfl (Fp.eUn 3 x)) ▸ A.kitAt_any _ (Fp.eUn 3 x) (Nat.le_refl _) (Fp.eUn 3 x) A8 c8 (some ⟨w6.heap.size, 0, none⟩) 1 _ (rowsE_of (x := Fp.eUn 3 x) (Kd.R_below HRR.out hb2)) (rowsE_of (x := Fp.eUn 3 x) hxw); (with_reducible refine hK.mono ?_); rintro e w8 ⟨rfl, hb⟩; replace HW := Hd.mk ((HW.out.trans (hb2.mono HW.out.size)).trans (hb.mono (Nat.le_trans HW.out.size hb2.size))); clear hb hb2 hK hxw)
          | fail)
        exact ⟨⟨4, by omega, rfl, ⟨HBr.out.trans (HW.out.mono HBr.out.size)⟩⟩, by simp [intOf]⟩
      · have hX : Calls Tryd.prog 7 #[.string (((⟨#[33, 40]⟩ : ByteArray) ++ s) ++ ⟨#[10, 41]⟩)] (wr.alloc (.cells #[.string (((⟨#[33, 40]⟩ : ByteArray) ++ s) ++ ⟨#[10, 41]⟩), .int .i64 5, .int .i64 3, .int .i64 0, .int .u32 0, .string ⟨#[]⟩, .slice (some ⟨w6.heap.size, 0, none⟩) 1 1] 33)) fun e w' => ∃ A5 c5, e = .returned (.tuple #[.agg #[.int .i64 0, .int .i64 0, .int .i64 0, .int .u32 0, .string ⟨#[]⟩, .slice A5 0 c5], .agg #[.int .i64 3, .int .i64 0, .int .i64 0]]) ∧ Kd.R kE 26 w' (wr.alloc (.cells #[.string (((⟨#[33, 40]⟩ : ByteArray) ++ s) ++ ⟨#[10, 41]⟩), .int .i64 5, .int .i64 3, .int .i64 0, .int .u32 0, .string ⟨#[]⟩, .slice (some ⟨w6.heap.size, 0, none⟩) 1 1] 33)).heap.size (fun _ => True) (.slice A5 (zE0).f5.length c5) (zE0).f5 ∧ Below (wr.alloc (.cells #[.string (((⟨#[33, 40]⟩ : ByteArray) ++ s) ++ ⟨#[10, 41]⟩), .int .i64 5, .int .i64 3, .int .i64 0, .int .u32 0, .string ⟨#[]⟩, .slice (some ⟨w6.heap.size, 0, none⟩) 1 1] 33)).heap.size (wr.alloc (.cells #[.string (((⟨#[33, 40]⟩ : ByteArray) ++ s) ++ ⟨#[10, 41]⟩), .int .i64 5, .int .i64 3, .int .i64 0, .int .u32 0, .string ⟨#[]⟩, .slice (some ⟨w6.heap.size, 0, none⟩) 1 1] 33)) w' := by
          have := Expr_any (((⟨#[33, 40]⟩ : ByteArray) ++ s) ++ ⟨#[10, 41]⟩) (wr.alloc (.cells #[.string (((⟨#[33, 40]⟩ : ByteArray) ++ s) ++ ⟨#[10, 41]⟩), .int .i64 5, .int .i64 3, .int .i64 0, .int .u32 0, .string ⟨#[]⟩, .slice (some ⟨w6.heap.size, 0, none⟩) 1 1] 33)) (bfit hs (by decide) (by decide)) (hpr.below (below_alloc (Below.refl _ _) _))
          rw [HG.out.2.2.2.1, hg] at this
          exact this
        have HXX := Hd.mk hX
        clear hX hg
        go_wp2_with (first
          | (go_at_call 7; (with_reducible refine HXX.out.mono ?_); rintro e w7 ⟨A8, c8, rfl, hR, hb⟩; have hSb := (hb.block _ (heap_lt' (NewB.alloc wr #[.string (((⟨#[33, 40]⟩ : ByteArray) ++ s) ++ ⟨#[10, 41]⟩), .int .i64 5, .int .i64 3, .int .i64 0, .int .u32 0, .string ⟨#[]⟩, .slice (some ⟨w6.heap.size, 0, none⟩) 1 1] 33).1)).trans (NewB.alloc wr #[.string (((⟨#[33, 40]⟩ : ByteArray) ++ s) ++ ⟨#[10, 41]⟩), .int .i64 5, .int .i64 3, .int .i64 0, .int .u32 0, .string ⟨#[]⟩, .slice (some ⟨w6.heap.size, 0, none⟩) 1 1] 33).1; have hba := below_alloc (Below.refl wr.heap.size wr) (.cells #[.string (((⟨#[33, 40]⟩ : ByteArray) ++ s) ++ ⟨#[10, 41]⟩), .int .i64 5, .int .i64 3, .int .i64 0, .int .u32 0, .string ⟨#[]⟩, .slice (some ⟨w6.heap.size, 0, none⟩) 1 1] 33); have HW := Hd.mk (hba.trans (hb.mono hba.size)); have HRR := Hd.mk hR; obtain ⟨s0, s1, s2, s3, s4, s5, s6⟩ := cells7 hSb; have l7 := heap_lt' hSb; clear hR hb hba hSb)
          | fail)
        exact ⟨⟨4, by omega, rfl, ⟨HBr.out.trans ((HW.out.trans ((below_two w7 _ _).mono HW.out.size)).mono HBr.out.size)⟩⟩, by simp [intOf]⟩
theorem brackets_walk (s : ByteArray) (w : World) (hP : PW w) (hs : s.size ≤ 140737488351232) :
    Calls Tryd.prog 3 #[.string s] w fun e w' => e = .returned (.bool true) ∧ Below w.heap.size w w' := by
  by_cases h : s.size ≤ 3000
  · cases hr : Fp.parseRes s with
    | mk x f =>
      by_cases h0 : f = (0, 0, 0)
      · subst h0; exact br_ok s w hP h x hr
      · have hx := res_bad hr h0
        subst hx
        exact br_bad s w hP h f hr h0
  · exact br_long s w hP (by omega) hs
end Go.Proofs.YtnjnadlgndjnbaaDoor.Pk
