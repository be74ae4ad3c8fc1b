/- Parse: the examples of the chapter: lives. -/
import Derived.Test.YtnjnadlgndjnbaaDoorYKp
import Derived.Test.YtnjnadlgndjnbaaDoorYKu
import Derived.Test.YtnjnadlgndjnbaaDoorYKr
set_option linter.unusedVariables false
set_option linter.unusedSimpArgs false
namespace Go.Proofs.YtnjnadlgndjnbaaDoor.Pk
open Go.RowKit Go.Proofs.YtnjnadlgndjnbaaDoorW.PrintWords Go.Proofs.YtnjnadlgndjnbaaDoorW.PrintLast Go.Proofs.YtnjnadlgndjnbaaDoorW.PrintMore Go.Proofs.YtnjnadlgndjnbaaDoor.Lx
set_option maxRecDepth 100000 in
theorem num_any (n : Int) (w : World) : Calls Tryd.prog 14 #[.int .u32 n] w fun e w' => e = .returned (.agg (exC (Fp.eNum n) none 0)) ∧ Below w.heap.size w w' := by
  go_enter Tryd.func14, Tryd.ntmps14
  go_wp2
  refine bodyPost_ret (results_cell_row rfl _ _ _ 26 _ (0, 0) _ rfl (NewB.alloc w (exC (Fp.eNum n) none 0) 26).1 Tryd.underlying26 rfl (by kernel_rfl)) rfl ?_
  exact ⟨rfl, below_alloc (Below.refl _ _) _⟩
set_option maxRecDepth 100000 in
theorem bin_any (op : Int) (x y : SE) (A5 A6 : Option Addr) (c5 c6 base : Nat) (w : World) (hx : Kd.R kE 26 w base (fun _ => True) (.slice A5 x.f5.length c5) x.f5) (hy : Kd.R kE 26 w base (fun _ => True) (.slice A6 y.f5.length c6) y.f5) (hb : base ≤ w.heap.size) :
    Calls Tryd.prog 13 #[.int .i64 op, .agg (exC x A5 c5), .agg (exC y A6 c6)] w fun e w' => ∃ A c, e = .returned (.agg (exC (Fp.eBin op x y) A c)) ∧ Kd.R kE 26 w' base (fun _ => True) (.slice A (Fp.eBin op x y).f5.length c) (Fp.eBin op x y).f5 ∧ Below w.heap.size w w' := by
  go_enter Tryd.func13, Tryd.ntmps13
  go_wp2
  have hB2 := below_two w (.cells (exC x A5 c5) 26) (.cells (exC y A6 c6) 26)
  have hz2 : ((w.alloc (.cells (exC x A5 c5) 26)).alloc (.cells (exC y A6 c6) 26)).heap.size = w.heap.size + 1 + 1 := two_size _ _ _
  generalize ((w.alloc (.cells (exC x A5 c5) 26)).alloc (.cells (exC y A6 c6) 26)) = W2 at hB2 hz2 ⊢
  have hres := (NewB.alloc W2 #[.int .i64 6, .int .i64 op, .int .i64 0, .int .u32 0, .string ⟨#[]⟩, .slice (some ⟨w.heap.size + 1 + 1 + 1, 0, none⟩) 2 2] 26).1
  have hba := below_alloc (Below.refl W2.heap.size W2) (.cells #[.int .i64 6, .int .i64 op, .int .i64 0, .int .u32 0, .string ⟨#[]⟩, .slice (some ⟨w.heap.size + 1 + 1 + 1, 0, none⟩) 2 2] 26)
  have hz3 : (W2.alloc (.cells #[.int .i64 6, .int .i64 op, .int .i64 0, .int .u32 0, .string ⟨#[]⟩, .slice (some ⟨w.heap.size + 1 + 1 + 1, 0, none⟩) 2 2] 26)).heap.size = w.heap.size + 1 + 1 + 1 := by rw [← hz2]; show (W2.heap.push _).size = _; simp
  rw [hz2] at hres
  generalize (W2.alloc (.cells #[.int .i64 6, .int .i64 op, .int .i64 0, .int .u32 0, .string ⟨#[]⟩, .slice (some ⟨w.heap.size + 1 + 1 + 1, 0, none⟩) 2 2] 26)) = W3 at hres hba hz3 ⊢
  have hB3 := hB2.trans (hba.mono hB2.size)
  have hM1 := Go.Proofs.YtnjnadlgndjnbaaDoor.A.k26_mkM W3 base (fun _ => True) x (Kd.R_below hx hB3)
  have hM2 := Go.Proofs.YtnjnadlgndjnbaaDoor.A.k26_mkM W3 base (fun _ => True) y (Kd.R_below hy hB3)
  have hR := R_row2 (e := 26) hM1 hM2 trivial (by omega)
  rw [hz3] at hR
  have hbf := below_alloc (Below.refl W3.heap.size W3) (.cells #[.int .i64 x.f0, .int .i64 x.f1, .int .i64 x.f2, .int .u32 x.f3, .string x.f4, .slice A5 x.f5.length c5, .int .i64 y.f0, .int .i64 y.f1, .int .i64 y.f2, .int .u32 y.f3, .string y.f4, .slice A6 y.f5.length c6] 26)
  refine bodyPost_ret (results_cell_row rfl _ _ _ 26 _ (0, 0) _ rfl ((hbf.block _ (heap_lt' hres)).trans hres) Tryd.underlying26 rfl (by kernel_rfl)) rfl ?_
  exact ⟨_, 2, rfl, hR, hB3.trans (hbf.mono hB3.size)⟩
def E0 : SE := Fp.eBin 16 (Fp.eBin 1 (Fp.eNum 1) (Fp.eBin 3 (Fp.eNum 2) (Fp.eNum 3))) (Fp.eVar [120])
theorem live1 : Fp.parseRes ⟨#[49, 43, 50, 42, 51, 60, 120]⟩ = (E0, 0, 0, 0) := by kernel_rfl
theorem live2 : Fp.parseRes ⟨#[49, 43]⟩ = (zE0, 14, 1, 3) := by kernel_rfl
def L3 : List Tk := [⟨1, ⟨#[120]⟩, 1, 1, 0⟩, ⟨4, ⟨#[61]⟩, 1, 3, 0⟩, ⟨4, ⟨#[59]⟩, 1, 5, 0⟩]
theorem live3 : lexAll ⟨#[120, 32, 61, 32, 59]⟩ = (L3, none) := by kernel_rfl
theorem live3s (blk : List Tk → Option (Fp.ResT (List SS))) : Fp.stmtW (endOf ⟨#[120, 32, 61, 32, 59]⟩).1 blk (L3.drop 0) = some (.bad (L3.drop 2)) := by kernel_rfl
theorem live4 (w : World) (hP : PW w) : Calls Tryd.prog 12 #[.string ⟨#[120, 32, 61, 32, 59]⟩] w (StmtsR w [] (14, 1, 5)) := by
  refine Stmts_first (w := w) (s := ⟨#[120, 32, 61, 32, 59]⟩) (l := L3) (by decide) hP live3 (by decide) 2 (by decide) ?_
  intro W g A c hg hp hv
  refine (stmt_set hg W 0 hp hv (fun _ => none) (by kernel_rfl) (by kernel_rfl) (by kernel_rfl) (by kernel_rfl) (by kernel_rfl) (by kernel_rfl) (by kernel_rfl) (by kernel_rfl) (by kernel_rfl) (by kernel_rfl)).mono ?_
  rintro e W' ⟨hG, (⟨a, j, v, hs, _⟩ | ⟨j, hs, hj, rfl⟩)⟩
  · rw [live3s] at hs; cases hs
  · rw [live3s] at hs
    have hj2 : j = 2 := by
      have := congrArg (fun r => match r with | some (Fp.ResT.bad m) => m.length | _ => 99) hs
      simp only [List.length_drop] at this
      have h3 : L3.length = 3 := rfl
      omega
    subst hj2
    exact ⟨hG, rfl⟩
def WT : SE := (Fp.eBin 16 (Fp.eBin 1 (Fp.eNum 1) (Fp.eBin 3 (Fp.eNum 2) (Fp.eNum 3))) (⟨2, 0, 0, 0, ⟨#[120]⟩, []⟩ : SE))
theorem same0 : A.sameE E0 WT = true := by kernel_rfl
theorem two_blk (w : World) (z z2 : Array Value) (t t2 : TypeId) : ((w.alloc (.cells z t)).alloc (.cells z2 t2)).heap[w.heap.size]? = some (.cells z t (0, 0)) ∧ ((w.alloc (.cells z t)).alloc (.cells z2 t2)).heap[w.heap.size + 1]? = some (.cells z2 t2 (0, 0)) :=
  ⟨((below_alloc (Below.refl _ (w.alloc (.cells z t))) _).block _ (heap_lt' (NewB.alloc w z t).1)).trans (NewB.alloc w z t).1, two_new w (.cells z t) z2 t2⟩
theorem rowsE_of {W : World} {x : SE} {A5 : Option Addr} {c5 base : Nat} {ok : Nat → Prop} (hR : Kd.R kE 26 W base ok (.slice A5 x.f5.length c5) x.f5) : A.RowsE W x A5 c5 := by
  obtain ⟨A', c', he, hl, hC⟩ := Kd.R_reads hR
  simp only [Value.slice.injEq] at he
  obtain ⟨rfl, _, rfl⟩ := he
  exact ⟨hC, hl⟩
set_option maxRecDepth 100000 in
set_option maxHeartbeats 2000000 in
theorem lives_any (w : World) (hP : PW w) : Calls Tryd.prog 6 #[] w fun e w' => e = .returned (.bool true) ∧ Below w.heap.size w w' := by
  have h1 : ∀ W : World, PW W → Calls Tryd.prog 7 #[.string ⟨#[49, 43, 50, 42, 51, 60, 120]⟩] W fun e w' => ∃ A5 c5, e = .returned (.tuple #[.agg (exC E0 A5 c5), .agg #[.int .i64 0, .int .i64 0, .int .i64 0]]) ∧ Kd.R kE 26 w' W.heap.size (fun _ => True) (.slice A5 E0.f5.length c5) E0.f5 ∧ Below W.heap.size W w' := fun W h => by
    have := Expr_any ⟨#[49, 43, 50, 42, 51, 60, 120]⟩ W (by decide) h
    rw [live1] at this
    exact this
  have h2 : ∀ W : World, PW W → Calls Tryd.prog 7 #[.string ⟨#[49, 43]⟩] W fun e w' => ∃ A5 c5, e = .returned (.tuple #[.agg (exC zE0 A5 c5), .agg #[.int .i64 14, .int .i64 1, .int .i64 3]]) ∧ Kd.R kE 26 w' W.heap.size (fun _ => True) (.slice A5 zE0.f5.length c5) zE0.f5 ∧ Below W.heap.size W w' := fun W h => by
    have := Expr_any ⟨#[49, 43]⟩ W (by decide) h
    rw [live2] at this
    exact this
  have h4 : ∀ W : World, PW W → Calls Tryd.prog 12 #[.string ⟨#[120, 32, 61, 32, 59]⟩] W fun e w' => ∃ A5 c5, e = .returned (.tuple #[.slice A5 0 c5, .agg #[.int .i64 14, .int .i64 1, .int .i64 5]]) ∧ True ∧ Below W.heap.size W w' := fun W h => (live4 W h).mono fun e w' ⟨A5, c5, he, _, hb⟩ => ⟨A5, c5, he, trivial, hb⟩
  have H1 := Hd.mk h1
  have H2 := Hd.mk h2
  have H4 := Hd.mk h4
  clear h1 h2 h4
  go_enter Tryd.func6, Tryd.ntmps6
  go_wp2_with (first
    | (go_at_call 7; (with_reducible refine (H1.out _ hP).mono ?_); rintro e w1 ⟨A5, c5, rfl, hR, hb⟩; have HR1 := Hd.mk hR; have HB := Hd.mk hb; clear hR hb)
    | (go_at_call 7; have hbt := HB.out.trans ((below_two w1 (.cells (exC E0 A5 c5) 26) (.cells #[.int .i64 0, .int .i64 0, .int .i64 0] 29)).mono HB.out.size); obtain ⟨hE, hF⟩ := two_blk w1 (exC E0 A5 c5) #[.int .i64 0, .int .i64 0, .int .i64 0] 26 29; (with_reducible refine (H2.out _ (hP.below hbt)).mono ?_); rintro e w2 ⟨A6, c6, rfl, hR, hb⟩; have HE := Hd.mk hE; have HF := Hd.mk hF; replace HE := Hd.mk ((hb.block _ (heap_lt' HE.out)).trans HE.out); replace HF := Hd.mk ((hb.block _ (heap_lt' HF.out)).trans HF.out); replace HB := Hd.mk (hbt.trans (hb.mono hbt.size)); replace HR1 := Hd.mk (Kd.R_below HR1.out ((below_two w1 _ _).trans (hb.mono (below_two w1 _ _).size))); clear hR hb hbt hE hF)
    | (go_at_call 12; have hb2 := below_two w2 (.cells #[.int .i64 0, .int .i64 0, .int .i64 0, .int .u32 0, .string ⟨#[]⟩, .slice A6 0 c6] 26) (.cells #[.int .i64 14, .int .i64 1, .int .i64 3] 29); have hbt := HB.out.trans (hb2.mono HB.out.size); obtain ⟨_, hG⟩ := two_blk w2 #[.int .i64 0, .int .i64 0, .int .i64 0, .int .u32 0, .string ⟨#[]⟩, .slice A6 0 c6] #[.int .i64 14, .int .i64 1, .int .i64 3] 26 29; (with_reducible refine (H4.out _ (hP.below hbt)).mono ?_); rintro e w3 ⟨A7, c7, rfl, hR, hb⟩; have HG := Hd.mk hG; replace HG := Hd.mk ((hb.block _ (heap_lt' HG.out)).trans HG.out); replace hb := hb2.trans (hb.mono hb2.size); replace HE := Hd.mk ((hb.block _ (heap_lt' HE.out)).trans HE.out); replace HF := Hd.mk ((hb.block _ (heap_lt' HF.out)).trans HF.out); replace HR1 := Hd.mk (Kd.R_below HR1.out hb); replace HB := Hd.mk (HB.out.trans (hb.mono HB.out.size)); clear hR hb hb2 hbt hG)
    | (go_at_call 14; have hb2 := below_alloc (Below.refl w3.heap.size w3) (.cells #[.int .i64 14, .int .i64 1, .int .i64 5] 29); have HH := Hd.mk (NewB.alloc w3 #[.int .i64 14, .int .i64 1, .int .i64 5] 29).1; (with_reducible refine (num_any 1 (w3.alloc (.cells #[.int .i64 14, .int .i64 1, .int .i64 5] 29))).mono ?_); rintro e w4 ⟨rfl, hb⟩; replace HH := Hd.mk ((hb.block _ (heap_lt' HH.out)).trans HH.out); replace hb := hb2.trans (hb.mono hb2.size); replace HE := Hd.mk ((hb.block _ (heap_lt' HE.out)).trans HE.out); replace HF := Hd.mk ((hb.block _ (heap_lt' HF.out)).trans HF.out); replace HG := Hd.mk ((hb.block _ (heap_lt' HG.out)).trans HG.out); replace HR1 := Hd.mk (Kd.R_below HR1.out hb); replace HB := Hd.mk (HB.out.trans (hb.mono HB.out.size)); clear hb hb2)
    | (go_at_call 14; (with_reducible refine (num_any 2 w4).mono ?_); rintro e w5 ⟨rfl, hb⟩; replace HE := Hd.mk ((hb.block _ (heap_lt' HE.out)).trans HE.out); replace HF := Hd.mk ((hb.block _ (heap_lt' HF.out)).trans HF.out); replace HG := Hd.mk ((hb.block _ (heap_lt' HG.out)).trans HG.out); replace HH := Hd.mk ((hb.block _ (heap_lt' HH.out)).trans HH.out); replace HR1 := Hd.mk (Kd.R_below HR1.out hb); replace HB := Hd.mk (HB.out.trans (hb.mono HB.out.size)); clear hb)
    | (go_at_call 14; (with_reducible refine (num_any 3 w5).mono ?_); rintro e w6 ⟨rfl, hb⟩; replace HE := Hd.mk ((hb.block _ (heap_lt' HE.out)).trans HE.out); replace HF := Hd.mk ((hb.block _ (heap_lt' HF.out)).trans HF.out); replace HG := Hd.mk ((hb.block _ (heap_lt' HG.out)).trans HG.out); replace HH := Hd.mk ((hb.block _ (heap_lt' HH.out)).trans HH.out); replace HR1 := Hd.mk (Kd.R_below HR1.out hb); replace HB := Hd.mk (HB.out.trans (hb.mono HB.out.size)); clear hb)
    | (go_at_call 13; (with_reducible refine (bin_any 3 (Fp.eNum 2) (Fp.eNum 3) none none 0 0 w.heap.size w6 (Kd.R_nil _ _ _ _ _) (Kd.R_nil _ _ _ _ _) HB.out.size).mono ?_); rintro e w7 ⟨A8, c8, rfl, hR, hb⟩; have HR2 := Hd.mk hR; replace HE := Hd.mk ((hb.block _ (heap_lt' HE.out)).trans HE.out); replace HF := Hd.mk ((hb.block _ (heap_lt' HF.out)).trans HF.out); replace HG := Hd.mk ((hb.block _ (heap_lt' HG.out)).trans HG.out); replace HH := Hd.mk ((hb.block _ (heap_lt' HH.out)).trans HH.out); replace HR1 := Hd.mk (Kd.R_below HR1.out hb); replace HB := Hd.mk (HB.out.trans (hb.mono HB.out.size)); clear hb hR)
    | (go_at_call 13; (with_reducible refine (bin_any 1 (Fp.eNum 1) (Fp.eBin 3 (Fp.eNum 2) (Fp.eNum 3)) none A8 0 c8 w.heap.size w7 (Kd.R_nil _ _ _ _ _) HR2.out HB.out.size).mono ?_); rintro e w8 ⟨A9, c9, rfl, hR, hb⟩; have HR3 := Hd.mk hR; replace HE := Hd.mk ((hb.block _ (heap_lt' HE.out)).trans HE.out); replace HF := Hd.mk ((hb.block _ (heap_lt' HF.out)).trans HF.out); replace HG := Hd.mk ((hb.block _ (heap_lt' HG.out)).trans HG.out); replace HH := Hd.mk ((hb.block _ (heap_lt' HH.out)).trans HH.out); replace HR1 := Hd.mk (Kd.R_below HR1.out hb); replace HB := Hd.mk (HB.out.trans (hb.mono HB.out.size)); clear hb hR)
    | (go_at_call 13; have hbn : Calls Tryd.prog 13 #[.int .i64 16, .agg (exC (Fp.eBin 1 (Fp.eNum 1) (Fp.eBin 3 (Fp.eNum 2) (Fp.eNum 3))) A9 c9), .agg #[.int .i64 2, .int .i64 0, .int .i64 0, .int .u32 0, .string ⟨#[120]⟩, .slice none 0 0]] w8 (fun e w' => ∃ A c, e = .returned (.agg (exC WT A c)) ∧ Kd.R kE 26 w' w.heap.size (fun _ => True) (.slice A WT.f5.length c) WT.f5 ∧ Below w8.heap.size w8 w') := (bin_any 16 (Fp.eBin 1 (Fp.eNum 1) (Fp.eBin 3 (Fp.eNum 2) (Fp.eNum 3))) (⟨2, 0, 0, 0, ⟨#[120]⟩, []⟩ : SE) A9 none c9 0 w.heap.size w8 HR3.out (Kd.R_nil _ _ _ _ _) HB.out.size); (with_reducible refine (hbn).mono ?_); rintro e w9 ⟨A10, c10, rfl, hR, hb⟩; have HR4 := Hd.mk hR; replace HE := Hd.mk ((hb.block _ (heap_lt' HE.out)).trans HE.out); replace HF := Hd.mk ((hb.block _ (heap_lt' HF.out)).trans HF.out); replace HG := Hd.mk ((hb.block _ (heap_lt' HG.out)).trans HG.out); replace HH := Hd.mk ((hb.block _ (heap_lt' HH.out)).trans HH.out); replace HR1 := Hd.mk (Kd.R_below HR1.out hb); replace HB := Hd.mk (HB.out.trans (hb.mono HB.out.size)); clear hb hR hbn; have hba := below_alloc (Below.refl w9.heap.size w9) (.cells (exC WT A10 c10) 26); obtain ⟨⟨f0, f1, f2⟩, _⟩ := cellsF HF.out; obtain ⟨⟨g0, g1, g2⟩, _⟩ := cellsF HG.out; obtain ⟨⟨h0, h1, h2⟩, _⟩ := cellsF HH.out; obtain ⟨e0, e1, e2, e3, e4, e5⟩ := cells6 HE.out; have l0 := heap_lt' HE.out; have l1 := heap_lt' HF.out; have l2 := heap_lt' HG.out; have l3 := heap_lt' HH.out; clear hba)
    | (go_at_call 8; have hba := below_alloc (Below.refl w9.heap.size w9) (.cells (exC WT A10 c10) 26); have hK := A.kitAt_any _ E0 (Nat.le_refl _) WT A5 c5 A10 c10 _ (rowsE_of (Kd.R_below HR1.out hba)) (rowsE_of (Kd.R_below HR4.out hba)); rw [same0] at hK; (with_reducible refine hK.mono ?_); rintro e w10 ⟨rfl, hb⟩; replace hb := hba.trans (hb.mono hba.size); replace HE := Hd.mk ((hb.block _ (heap_lt' HE.out)).trans HE.out); replace HF := Hd.mk ((hb.block _ (heap_lt' HF.out)).trans HF.out); replace HG := Hd.mk ((hb.block _ (heap_lt' HG.out)).trans HG.out); replace HH := Hd.mk ((hb.block _ (heap_lt' HH.out)).trans HH.out); replace HB := Hd.mk (HB.out.trans (hb.mono HB.out.size)); obtain ⟨⟨g0, g1, g2⟩, _⟩ := cellsF HG.out; obtain ⟨⟨h0, h1, h2⟩, _⟩ := cellsF HH.out; clear hba hb)
    | fail)
  go_ret
  exact ⟨rfl, HB.out⟩
end Go.Proofs.YtnjnadlgndjnbaaDoor.Pk
