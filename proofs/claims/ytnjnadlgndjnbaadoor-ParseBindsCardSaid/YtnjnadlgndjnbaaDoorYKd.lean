/- Parse: what is left of the tokens; the outcome of a method; unary. -/
import Derived.Test.YtnjnadlgndjnbaaDoorYKc
set_option linter.unusedVariables false
set_option linter.unusedSimpArgs false
namespace Go.Proofs.YtnjnadlgndjnbaaDoor.Pk
open Go.RowKit Go.Proofs.YtnjnadlgndjnbaaDoorW.PrintWords Go.Proofs.YtnjnadlgndjnbaaDoorW.PrintLast Go.Proofs.YtnjnadlgndjnbaaDoorW.PrintMore Go.Proofs.YtnjnadlgndjnbaaDoor.Lx
abbrev SE := Fp.SE
abbrev kE := A.k26
def ky (t : Tk) : Fp.Key := (t.kind, t.text.data.toList, t.num)
def ks (l : List Tk) (i : Nat) : List Fp.Key := (l.drop i).map ky
theorem ks_at {l : List Tk} {i : Nat} {t : Tk} (h : l[i]? = some t) : ks l i = ky t :: ks l (i + 1) := by
  obtain ⟨hi, rfl⟩ := List.getElem?_eq_some_iff.1 h
  unfold ks
  rw [List.drop_eq_getElem_cons hi, List.map_cons]
theorem ks_end {l : List Tk} {i : Nat} (h : l[i]? = none) : ks l i = [] := by
  unfold ks
  rw [List.drop_eq_nil_of_le (List.getElem?_eq_none_iff.1 h)]; rfl
theorem ks_len {l : List Tk} {i : Nat} : (ks l i).length = l.length - i := by simp [ks]
section
variable {l : List Tk} {i : Nat} {ln cl : Int}
theorem isT_K (s : ByteArray) : Fp.isT s.data.toList (ks l i) = isK s (nowT l i ln cl) := by
  cases h : l[i]? with
  | none => rw [ks_end h]; unfold nowT isK; rw [h]; rfl
  | some t => rw [ks_at h]; unfold nowT isK; rw [h]; simp [Fp.isT, ky, ByteArray.toList_eq]
theorem isK_lt {s : ByteArray} (h : isK s (nowT l i ln cl) = true) : i < l.length := by
  cases hl : l[i]? with
  | none => unfold nowT isK at h; rw [hl] at h; cases h
  | some t => exact (List.getElem?_eq_some_iff.1 hl).1
theorem kind_K : Fp.kindAt (ks l i) = (nowT l i ln cl).kind := by
  cases h : l[i]? with
  | none => rw [ks_end h]; unfold nowT; rw [h]; rfl
  | some t => rw [ks_at h]; unfold nowT; rw [h]; rfl
theorem kind_lt (h : ¬ (nowT l i ln cl).kind = 0) : i < l.length := by
  cases hl : l[i]? with
  | none => unfold nowT at h; rw [hl] at h; exact absurd rfl h
  | some t => exact (List.getElem?_eq_some_iff.1 hl).1
theorem text_K : Fp.textAt (ks l i) = (nowT l i ln cl).text.data.toList := by
  cases h : l[i]? with
  | none => rw [ks_end h]; unfold nowT; rw [h]; rfl
  | some t => rw [ks_at h]; unfold nowT; rw [h]; rfl
theorem num_K : Fp.numAt (ks l i) = (nowT l i ln cl).num := by
  cases h : l[i]? with
  | none => rw [ks_end h]; unfold nowT; rw [h]; rfl
  | some t => rw [ks_at h]; unfold nowT; rw [h]; rfl
theorem type_K : Fp.typeAt (ks l i) = if (nowT l i ln cl).kind == 2 then typN (nowT l i ln cl).text else 0 := by
  cases h : l[i]? with
  | none => rw [ks_end h]; unfold nowT; rw [h]; rfl
  | some t => rw [ks_at h]; unfold nowT; rw [h]; rfl
theorem tail_K (h : i < l.length) : (ks l i).tail = ks l (i + 1) := by rw [ks_at (List.getElem?_eq_getElem h)]; rfl
end
def Out {α : Type} (RV : World → World → α → Value → Prop) (w : World) (g : Nat) (A : Option Addr) (c : Nat) (l : List Tk) (ln cl : Int) (r : Fp.Res α) (e : Ending) (w' : World) : Prop :=
  w.grownBy w' (some g) ∧ match r with
  | .ok a rest => ∃ i v, rest = ks l i ∧ Pa w' g A c l i ln cl ∧ e = .returned v ∧ RV w w' a v
  | .bad rest => ∃ i, rest = ks l i ∧ i ≤ l.length ∧ e = .panicked [{ v := thrown (nowT l i ln cl), recovered := false }]
def ExR (g : Nat) (w w' : World) (x : SE) (v : Value) : Prop := ∃ A5 c5, v = .agg #[.int .i64 x.f0, .int .i64 x.f1, .int .i64 x.f2, .int .u32 x.f3, .string x.f4, .slice A5 x.f5.length c5] ∧ Kd.R kE 26 w' w.heap.size (fun k => k ≠ g) (.slice A5 x.f5.length c5) x.f5
def ArR (g : Nat) (w w' : World) (x : List SE) (v : Value) : Prop := ∃ A5 c5, v = .slice A5 x.length c5 ∧ Kd.R kE 26 w' w.heap.size (fun k => k ≠ g) (.slice A5 x.length c5) x
structure Spec (B g : Nat) (A : Option Addr) (c : Nat) (l : List Tk) (ln cl : Int) (k : Nat) : Prop where
  expr : ∀ (n : Nat) (w : World) (i : Nat) (r : Fp.Res SE), 1 ≤ n → n ≤ 9 → Pa w g A c l i ln cl → Pv B w → Fp.expr k n (ks l i) = some r → Calls Tryd.prog 18 #[.pointer (some ⟨g, 0, none⟩), .int .i64 n] w (Out (ExR g) w g A c l ln cl r)
  unary : ∀ (w : World) (i : Nat) (r : Fp.Res SE), Pa w g A c l i ln cl → Pv B w → Fp.unary k (ks l i) = some r → Calls Tryd.prog 37 #[.pointer (some ⟨g, 0, none⟩)] w (Out (ExR g) w g A c l ln cl r)
  primary : ∀ (w : World) (i : Nat) (r : Fp.Res SE), Pa w g A c l i ln cl → Pv B w → Fp.primary k (ks l i) = some r → Calls Tryd.prog 55 #[.pointer (some ⟨g, 0, none⟩)] w (Out (ExR g) w g A c l ln cl r)
  args : ∀ (w : World) (i : Nat) (r : Fp.Res (List SE)), Pa w g A c l i ln cl → Pv B w → Fp.args k (ks l i) = some r → Calls Tryd.prog 52 #[.pointer (some ⟨g, 0, none⟩)] w (Out (ArR g) w g A c l ln cl r)
def unS : Nat → ByteArray
  | 1 => ⟨#[45]⟩
  | 2 => ⟨#[126]⟩
  | 3 => ⟨#[33]⟩
  | _ => ⟨#[]⟩
theorem ix0 (w : World) : (Instr.index 117 (.agg #[.string ⟨#[]⟩, .string ⟨#[45]⟩, .string ⟨#[126]⟩, .string ⟨#[33]⟩]) (.int .i64 0)).run Tryd.prog w = .ok (.string (unS 0)) w := by kernel_rfl
theorem ix1 (w : World) : (Instr.index 117 (.agg #[.string ⟨#[]⟩, .string ⟨#[45]⟩, .string ⟨#[126]⟩, .string ⟨#[33]⟩]) (.int .i64 1)).run Tryd.prog w = .ok (.string (unS 1)) w := by kernel_rfl
theorem ix2 (w : World) : (Instr.index 117 (.agg #[.string ⟨#[]⟩, .string ⟨#[45]⟩, .string ⟨#[126]⟩, .string ⟨#[33]⟩]) (.int .i64 2)).run Tryd.prog w = .ok (.string (unS 2)) w := by kernel_rfl
theorem ix3 (w : World) : (Instr.index 117 (.agg #[.string ⟨#[]⟩, .string ⟨#[45]⟩, .string ⟨#[126]⟩, .string ⟨#[33]⟩]) (.int .i64 3)).run Tryd.prog w = .ok (.string (unS 3)) w := by kernel_rfl
theorem grown_trans {w w' w'' : World} {r : Option Nat} (h : w.grownBy w' r) (k : w'.grownBy w'' r) : w.grownBy w'' r :=
  ⟨k.os.trans h.os, k.tape.trans h.tape, k.output.trans h.output, Nat.le_trans h.size k.size, fun b hb hr => (k.block b (Nat.lt_of_lt_of_le hb h.size) hr).trans (h.block b hb hr)⟩
@[reducible] def zE6 : Array Value := #[.int .i64 0, .int .i64 0, .int .i64 0, .int .u32 0, .string ⟨#[]⟩, .slice none 0 0]
theorem cells6 {W : World} {b : Nat} {t : TypeId} {v0 v1 v2 v3 v4 v5 : Value} (h : W.heap[b]? = some (.cells #[v0, v1, v2, v3, v4, v5] t (0, 0))) :
    W.cell? ⟨b, 0, none⟩ = some v0 ∧ W.cell? ⟨b, 1, none⟩ = some v1 ∧ W.cell? ⟨b, 2, none⟩ = some v2 ∧ W.cell? ⟨b, 3, none⟩ = some v3 ∧ W.cell? ⟨b, 4, none⟩ = some v4 ∧ W.cell? ⟨b, 5, none⟩ = some v5 := by
  refine ⟨?_, ?_, ?_, ?_, ?_, ?_⟩ <;> simp [World.cell?, h]
theorem froz6 {W : World} {b : Nat} {t : TypeId} {cs : Array Value} (h : W.heap[b]? = some (.cells cs t (0, 0))) :
    W.frozen? ⟨b, 0, none⟩ = false ∧ W.frozen? ⟨b, 1, none⟩ = false ∧ W.frozen? ⟨b, 2, none⟩ = false ∧ W.frozen? ⟨b, 3, none⟩ = false ∧ W.frozen? ⟨b, 4, none⟩ = false ∧ W.frozen? ⟨b, 5, none⟩ = false := by
  refine ⟨?_, ?_, ?_, ?_, ?_, ?_⟩ <;> simp [World.frozen?, h]
theorem keep_blk {W W' : World} {g b : Nat} {o : Obj} (h : W.heap[b]? = some o) (hg : W.grownBy W' (some g)) (hne : b ≠ g) : W'.heap[b]? = some o :=
  (hg.block b (heap_lt' h) (fun e => hne (Option.some.inj e))).trans h
theorem put6 {W : World} {b : Nat} {t : TypeId} {v0 v1 v2 v3 v4 v5 : Value} (h : W.heap[b]? = some (.cells #[v0, v1, v2, v3, v4, v5] t (0, 0))) (u0 u1 u2 u3 u4 u5 : Value) :
    ((((((W.setCell ⟨b, 0, none⟩ u0).setCell ⟨b, 1, none⟩ u1).setCell ⟨b, 2, none⟩ u2).setCell ⟨b, 3, none⟩ u3).setCell ⟨b, 4, none⟩ u4).setCell ⟨b, 5, none⟩ u5).heap[b]? = some (.cells #[u0, u1, u2, u3, u4, u5] t (0, 0)) ∧
    W.grownBy ((((((W.setCell ⟨b, 0, none⟩ u0).setCell ⟨b, 1, none⟩ u1).setCell ⟨b, 2, none⟩ u2).setCell ⟨b, 3, none⟩ u3).setCell ⟨b, 4, none⟩ u4).setCell ⟨b, 5, none⟩ u5) (some b) :=
  ⟨blk_put (blk_put (blk_put (blk_put (blk_put (blk_put h 0 u0 rfl) 1 u1 rfl) 2 u2 rfl) 3 u3 rfl) 4 u4 rfl) 5 u5 rfl,
    grown_set (grown_set (grown_set (grown_set (grown_set (grown_set (grown_refl W _) 0 u0) 1 u1) 2 u2) 3 u3) 4 u4) 5 u5⟩
theorem grown_over {w W W' : World} {r : Option Nat} {b : Nat} (h : w.grownBy W r) (k : W.grownBy W' (some b)) (hb : w.heap.size ≤ b) : w.grownBy W' r :=
  ⟨k.os.trans h.os, k.tape.trans h.tape, k.output.trans h.output, Nat.le_trans h.size k.size, fun q hq hr => (k.block q (Nat.lt_of_lt_of_le hq h.size) (fun e => by cases e; omega)).trans (h.block q hq hr)⟩
theorem Pa.fin {w w1 W : World} {g : Nat} {A : Option Addr} {c : Nat} {l : List Tk} {i i' : Nat} {ln cl : Int} {b : Nat} (h0 : Pa w g A c l i ln cl) (hg : w.grownBy W (some g)) (h1 : Pa w1 g A c l i' ln cl) (hk : w1.grownBy W (some b)) (hne : g ≠ b) : Pa W g A c l i' ln cl :=
  ⟨(hk.block g h1.lt (fun e => hne (Option.some.inj e))).trans h1.st, h0.tk.step hg, h1.len, h1.pos, h1.txt⟩
theorem R_fin {α : Type} {d : Kd α} {e B B' g b : Nat} {w1 W : World} {v : Value} {xs : List α} (hR : d.R e w1 B (fun k => k ≠ g) v xs) (hk : w1.grownBy W (some b)) (hb : b < B) (hle : B' ≤ B) : d.R e W B' (fun k => k ≠ g) v xs :=
  Kd.R_mono (Kd.R_lower (Kd.R_step (Kd.R_bound hR) (fun k hk1 hk2 => hk.block k hk2 (fun e => by cases e; have := hk1.2.1; omega))) hle) (fun k hk => hk.1)
set_option maxRecDepth 100000 in
theorem unary_none {B g : Nat} {A : Option Addr} {c : Nat} {l : List Tk} {ln cl : Int} {k : Nat} (hk : Spec B g A c l ln cl k) (hB : B ≤ g) (w : World) (i : Nat) (r : Fp.Res SE) (hp : Pa w g A c l i ln cl) (hv : Pv B w)
    (h0 : ∀ m, 1 ≤ m → m ≤ 3 → isK (unS m) (nowT l i ln cl) = false) (h : Fp.primary k (ks l i) = some r) :
    Calls Tryd.prog 37 #[.pointer (some ⟨g, 0, none⟩)] w (Out (ExR g) w g A c l ln cl r) := by
  go_enter Tryd.func37, Tryd.ntmps37
  go_wp2
  have hP0 := Hd.mk (hp.below (below_alloc (Below.refl w.heap.size w) (.cells zE6 26)))
  have hG0 := Hd.mk (grown_of_below (below_alloc (Below.refl w.heap.size w) (.cells zE6 26)) (some g))
  have hN0 := Hd.mk (NewB.alloc w zE6 26).1
  have hgl := hp.lt
  go_loopw [6] (fun t wr => ∃ n : Int, (0 ≤ n ∧ n ≤ 4) ∧ t = .int .i64 n ∧ Hd (Pa wr g A c l i ln cl) ∧ Hd (w.grownBy wr (some g)) ∧ Hd (wr.heap[w.heap.size]? = some (.cells zE6 26 (0, 0)))) (fun t _ => 4 - (intOf t).toNat)
  case atStart => exact ⟨0, by omega, rfl, hP0, hG0, hN0⟩
  case round =>
    clear hP0 hG0 hN0
    obtain ⟨n, hn, rfl, hP, hG, hN⟩ := hrel
    have hn5 : n = 4 ∨ n = 0 ∨ n = 1 ∨ n = 2 ∨ n = 3 := by omega
    clear hn
    rcases hn5 with rfl | rfl | rfl | rfl | rfl
    · cases r with
      | bad rest =>
        go_wp2_with (go_at_call 55; refine (hk.primary _ i _ hP.out (hv.grown hG.out hB) h).mono ?_; rintro e w1 ⟨hg1, i', hr, hi, rfl⟩)
        exact ⟨rfl, grown_trans hG.out hg1, i', by first | rfl | exact hr, hi, rfl⟩
      | ok x rest =>
        go_wp2_with (go_at_call 55; refine (hk.primary _ i _ hP.out (hv.grown hG.out hB) h).mono ?_; rintro e w1 ⟨hg1, i', v, hr, hp1, rfl, A5, c5, rfl, hR⟩; have hN1 := keep_blk hN.out hg1 (Nat.ne_of_gt hgl); obtain ⟨q0, q1, q2, q3, q4, q5⟩ := cells6 hN1; obtain ⟨f0, f1, f2, f3, f4, f5⟩ := froz6 hN1)
        have hF := put6 hN1 (.int .i64 x.f0) (.int .i64 x.f1) (.int .i64 x.f2) (.int .u32 x.f3) (.string x.f4) (.slice A5 x.f5.length c5)
        have hGF := grown_over (grown_trans hG.out hg1) hF.2 (Nat.le_refl _)
        refine bodyPost_ret (results_cell_row rfl _ _ _ 26 _ (0, 0) _ rfl hF.1 Tryd.underlying26 rfl (by kernel_rfl)) rfl ?_
        exact ⟨hGF, i', _, hr, hp.fin hGF hp1 hF.2 (by omega), rfl, A5, c5, rfl, R_fin hR hF.2 (heap_lt' hN.out) hG.out.size⟩
    · have hix := ix0 wr
      simp only [unS] at hix
      go_wp2
      exact ⟨⟨1, by omega, rfl, hP, hG, hN⟩, by simp [intOf]⟩
    · have hix := ix1 wr
      have hm := may_any (unS 1) hP.out (fun h => absurd ((h0 1 (by omega) (by omega)).symm.trans h) (by decide))
      rw [h0 1 (by omega) (by omega)] at hm
      simp only [Bool.false_eq_true, if_false] at hm
      simp only [unS] at hix hm
      go_wp2_with (go_at_call 38; refine hm.mono ?_; rintro e w1 ⟨rfl, hp1, hg1⟩)
      exact ⟨⟨2, by omega, rfl, ⟨hp1⟩, ⟨grown_trans hG.out hg1⟩, ⟨keep_blk hN.out hg1 (Nat.ne_of_gt hgl)⟩⟩, by simp [intOf]⟩
    · have hix := ix2 wr
      have hm := may_any (unS 2) hP.out (fun h => absurd ((h0 2 (by omega) (by omega)).symm.trans h) (by decide))
      rw [h0 2 (by omega) (by omega)] at hm
      simp only [Bool.false_eq_true, if_false] at hm
      simp only [unS] at hix hm
      go_wp2_with (go_at_call 38; refine hm.mono ?_; rintro e w1 ⟨rfl, hp1, hg1⟩)
      exact ⟨⟨3, by omega, rfl, ⟨hp1⟩, ⟨grown_trans hG.out hg1⟩, ⟨keep_blk hN.out hg1 (Nat.ne_of_gt hgl)⟩⟩, by simp [intOf]⟩
    · have hix := ix3 wr
      have hm := may_any (unS 3) hP.out (fun h => absurd ((h0 3 (by omega) (by omega)).symm.trans h) (by decide))
      rw [h0 3 (by omega) (by omega)] at hm
      simp only [Bool.false_eq_true, if_false] at hm
      simp only [unS] at hix hm
      go_wp2_with (go_at_call 38; refine hm.mono ?_; rintro e w1 ⟨rfl, hp1, hg1⟩)
      exact ⟨⟨4, by omega, rfl, ⟨hp1⟩, ⟨grown_trans hG.out hg1⟩, ⟨keep_blk hN.out hg1 (Nat.ne_of_gt hgl)⟩⟩, by simp [intOf]⟩
theorem size_set (W : World) (p : Addr) (u : Value) : (W.setCell p u).heap.size = W.heap.size := by simp [World.setCell]
def put6W (W : World) (b : Nat) (u0 u1 u2 u3 u4 u5 : Value) : World := ((((((W.setCell ⟨b, 0, none⟩ u0).setCell ⟨b, 1, none⟩ u1).setCell ⟨b, 2, none⟩ u2).setCell ⟨b, 3, none⟩ u3).setCell ⟨b, 4, none⟩ u4).setCell ⟨b, 5, none⟩ u5)
theorem size_put6 (W : World) (b : Nat) (u0 u1 u2 u3 u4 u5 : Value) : (put6W W b u0 u1 u2 u3 u4 u5).heap.size = W.heap.size := by simp only [put6W, size_set]
theorem fin_one {w w1 : World} {g : Nat} {A : Option Addr} {c : Nat} {l : List Tk} {i i' : Nat} {ln cl : Int} {x : SE} {A5 : Option Addr} {c5 Bq : Nat} {v0 v1 v2 v3 v4 v5 : Value} (u0 u1 u2 u3 u4 : Value)
    (hp : Pa w g A c l i ln cl) (hG : w.grownBy w1 (some g)) (hN : w1.heap[w.heap.size]? = some (.cells #[v0, v1, v2, v3, v4, v5] 26 (0, 0))) (hp1 : Pa w1 g A c l i' ln cl)
    (hR : Kd.R kE 26 w1 Bq (fun k => k ≠ g) (.slice A5 x.f5.length c5) x.f5) (hb : w.heap.size < Bq) {W : World}
    (hW : W = (put6W w1 w.heap.size u0 u1 u2 u3 u4 (.slice (some ⟨w1.heap.size, 0, none⟩) 1 1)).alloc (.cells #[.int .i64 x.f0, .int .i64 x.f1, .int .i64 x.f2, .int .u32 x.f3, .string x.f4, .slice A5 x.f5.length c5] 26)) :
    W.heap[w.heap.size]? = some (.cells #[u0, u1, u2, u3, u4, .slice (some ⟨w1.heap.size, 0, none⟩) 1 1] 26 (0, 0)) ∧ w.grownBy W (some g) ∧ Pa W g A c l i' ln cl ∧ Kd.R kE 26 W w.heap.size (fun k => k ≠ g) (.slice (some ⟨w1.heap.size, 0, none⟩) 1 1) [x] := by
  subst hW
  have hF := put6 hN u0 u1 u2 u3 u4 (.slice (some ⟨w1.heap.size, 0, none⟩) 1 1)
  have hs := size_put6 w1 w.heap.size u0 u1 u2 u3 u4 (.slice (some ⟨w1.heap.size, 0, none⟩) 1 1)
  have hgl := hp.lt
  change (put6W w1 w.heap.size u0 u1 u2 u3 u4 (.slice (some ⟨w1.heap.size, 0, none⟩) 1 1)).heap[w.heap.size]? = _ ∧ w1.grownBy (put6W w1 w.heap.size u0 u1 u2 u3 u4 (.slice (some ⟨w1.heap.size, 0, none⟩) 1 1)) (some w.heap.size) at hF
  generalize put6W w1 w.heap.size u0 u1 u2 u3 u4 (.slice (some ⟨w1.heap.size, 0, none⟩) 1 1) = W3 at hF hs ⊢
  have hG3 := grown_over hG hF.2 (Nat.le_refl _)
  have hP3 := hp.fin hG3 hp1 hF.2 (by omega)
  have hba := below_alloc (Below.refl W3.heap.size W3) (.cells #[.int .i64 x.f0, .int .i64 x.f1, .int .i64 x.f2, .int .u32 x.f3, .string x.f4, .slice A5 x.f5.length c5] 26)
  refine ⟨(hba.block _ (heap_lt' hF.1)).trans hF.1, grown_below hG3 hba, hP3.below hba, ?_⟩
  have hM := Go.Proofs.YtnjnadlgndjnbaaDoor.A.k26_mkM W3 w.heap.size (fun k => k ≠ g) x (R_fin hR hF.2 hb (Nat.le_of_lt hb))
  have := R_row1 (e := 26) hM (by have := hG3.size; show W3.heap.size ≠ g; omega) hG3.size
  rw [hs] at this
  exact this
end Go.Proofs.YtnjnadlgndjnbaaDoor.Pk
