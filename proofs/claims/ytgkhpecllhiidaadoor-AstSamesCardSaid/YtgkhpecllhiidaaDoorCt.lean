/- AstSames: the walk. -/
import Derived.Test.YtgkhpecllhiidaaDoorCq
set_option linter.unusedVariables false
set_option linter.unusedSimpArgs false
namespace Go.Proofs.YtgkhpecllhiidaaDoor.A
open Go.RowKit Go.Shelf Go.Proofs.YtgkhpecllhiidaaDoor.As Go.Proofs.YtgkhpecllhiidaaDoorW.PrintWords Go.Proofs.YtgkhpecllhiidaaDoorW.PrintLast Go.Proofs.YtgkhpecllhiidaaDoorW.PrintMore
theorem blk4 (w : World) (o1 o2 o3 o4 : Obj) : ((((w.alloc o1).alloc o2).alloc o3).alloc o4).heap[w.heap.size]? = some o1 ∧ ((((w.alloc o1).alloc o2).alloc o3).alloc o4).heap[w.heap.size + 1]? = some o2 ∧ ((((w.alloc o1).alloc o2).alloc o3).alloc o4).heap[w.heap.size + 1 + 1]? = some o3 ∧ ((((w.alloc o1).alloc o2).alloc o3).alloc o4).heap[w.heap.size + 1 + 1 + 1]? = some o4 := by
  have z1 : (w.alloc o1).heap.size = w.heap.size + 1 := by simp
  have z2 : ((w.alloc o1).alloc o2).heap.size = w.heap.size + 1 + 1 := by simp
  have z3 : (((w.alloc o1).alloc o2).alloc o3).heap.size = w.heap.size + 1 + 1 + 1 := by simp
  exact ⟨blk_alloc (blk_alloc (blk_alloc (World.alloc_heap_new w o1) _) _) _, z1 ▸ blk_alloc (blk_alloc (World.alloc_heap_new _ o2) _) _, z2 ▸ blk_alloc (World.alloc_heap_new _ o3) _, z3 ▸ World.alloc_heap_new _ o4⟩
theorem sizeP_calls (p : SP) (hF : fitP p = true) (A1 A2 A3 : Option Addr) (c1 c2 c3 : Nat) (W : World) (hR : RowsP W p A1 A2 A3 c1 c2 c3) :
    Calls Tryd.prog 27 #[.agg #[.int .i64 p.f0, .slice A1 p.f1.length c1, .slice A2 p.f2.length c2, .slice A3 p.f3.length c3]] W fun r W' => r = .returned (.int .i64 (sizes (nodes p.f3))) ∧ Below W.heap.size W W' :=
  size_prog p.f0 _ _ rfl rfl A3 c3 p.f3 W hR.2.2.1 hR.2.2.1.2.1 (fitP_parts hF).1 (fitP_parts hF).2.1
theorem deepP_calls (p : SP) (hF : fitP p = true) (A1 A2 A3 : Option Addr) (c1 c2 c3 : Nat) (W : World) (hR : RowsP W p A1 A2 A3 c1 c2 c3) :
    Calls Tryd.prog 26 #[.agg #[.int .i64 p.f0, .slice A1 p.f1.length c1, .slice A2 p.f2.length c2, .slice A3 p.f3.length c3]] W fun r W' => r = .returned (.int .i64 (deeps (nodes p.f3))) ∧ Below W.heap.size W W' :=
  deep_fit p.f0 _ _ rfl rfl A3 c3 p.f3 W hR.2.2.1 (fitP_parts hF).1 (fun x hx => (fit_parts ((fitP_parts hF).2.2.1 x hx)).2.1)
/-- A difference of two. -/
def subE (x y : SE) : SE := ⟨6, 2, 0, 0, ⟨#[]⟩, [x, y]⟩
theorem names_sub (x y : SE) : namesE (subE x y) = [] ++ namesE x ++ namesE y := by
  unfold subE
  rw [namesE, if_pos (show (⟨#[]⟩ : ByteArray).toList = [] by rw [ByteArray.toList_eq]), namesEs, namesEs, namesEs, List.append_nil, List.nil_append, List.nil_append]
theorem same_sub (x y : SE) : sameE (subE x y) (subE y x) = sameE x y := by
  rw [sameE_eq, show sameB (subE x y) (subE y x) = true by unfold sameB subE; simp, Bool.true_and]
  show (sameE x y && (sameE y x && true)) = sameE x y
  rw [sameE_comm y x, Bool.and_true, Bool.and_self]
theorem size_sub (x y : SE) : sizeE (subE x y) = 1 + sizeE x + sizeE y := by unfold subE; simp only [sizeE, sizeEs]; omega
theorem deep_sub (x y : SE) : deepE (subE x y) = 1 + max (deepE x) (deepE y) := by unfold subE; simp only [deepE, deepEs]; omega
theorem bool_ne {a b : Bool} (h : ¬ a = b) : b = !a := by cases a <;> cases b <;> simp at h ⊢
theorem ex_imp {α : Type} {p q : α → Prop} (h : ∃ x, p x) (f : ∀ x, p x → q x) : ∃ x, q x := h.elim fun x hx => ⟨x, f x hx⟩
theorem own_ne {k g : Nat} (h : some k = (.slice (some ⟨g, 0, none⟩) 0 0 : Value).ownBlock) (hne : k ≠ g) : False := hne (by simpa [Value.ownBlock] using h)
theorem texts2_calls (l m : List ByteArray) (h : m = l) (hs : l.length < 4611686018427387904) (A B : Option Addr) (c d : Nat) (W : World) (hc : l.length ≤ c) (hd : m.length ≤ d) (h1 : Kd.string.C W A l.length l) (h2 : Kd.string.C W B m.length m) :
    Calls Tryd.prog 21 #[.slice A l.length c, .slice B m.length d] W fun r W' => r = .returned (.bool true) ∧ Below W.heap.size W W' := by
  subst h
  exact texts_calls _ hs A B c d W hc hd h1 h2
set_option maxRecDepth 100000 in
set_option maxHeartbeats 40000000 in
theorem astSames_walk (p q : SP) (e f : SE) (A1 A2 A3 B1 B2 B3 A5 B5 : Option Addr) (c1 c2 c3 d1 d2 d3 c5 d5 : Nat) (w : World) (hG : Keys w) (hP : RowsP w p A1 A2 A3 c1 c2 c3) (hQ : RowsP w q B1 B2 B3 d1 d2 d3) (hE : RowsE w e A5 c5) (hF : RowsE w f B5 d5)
    (wP : wellP p) (wQ : wellP q) (sE : AllN szN (.ex e)) (sF : AllN szN (.ex f)) :
    Calls Tryd.prog 7 #[.agg #[.int .i64 p.f0, .slice A1 p.f1.length c1, .slice A2 p.f2.length c2, .slice A3 p.f3.length c3], .agg #[.int .i64 q.f0, .slice B1 q.f1.length d1, .slice B2 q.f2.length d2, .slice B3 q.f3.length d3], .agg #[.int .i64 e.f0, .int .i64 e.f1, .int .i64 e.f2, .int .u32 e.f3, .string e.f4, .slice A5 e.f5.length c5], .agg #[.int .i64 f.f0, .int .i64 f.f1, .int .i64 f.f2, .int .u32 f.f3, .string f.f4, .slice B5 f.f5.length d5]] w fun r w' => r = .returned (.bool true) ∧ Below w.heap.size w w' := by
  obtain ⟨b1, hL1⟩ : ∃ b, lightPB p = b := ⟨_, rfl⟩
  obtain ⟨b2, hL2⟩ : ∃ b, lightPB q = b := ⟨_, rfl⟩
  have hS1 := lightP_says p wP
  have hS2 := lightP_says q wQ
  rw [hL1] at hS1
  rw [hL2] at hS2
  obtain ⟨k3, b3, hL3, hS3⟩ := lightExpr_f e sE
  obtain ⟨k4, b4, hL4, hS4⟩ := lightExpr_f f sF
  have HG := Lx.Hd.mk hG
  have HR := Lx.Hd.mk (And.intro hP (And.intro hQ (And.intro hE hF)))
  have HL1 := Lx.Hd.mk hL1
  have HL2 := Lx.Hd.mk hL2
  have HL3 := Lx.Hd.mk hL3
  have HL4 := Lx.Hd.mk hL4
  have HS := Lx.Hd.mk (And.intro hS1 (And.intro hS2 (And.intro hS3 hS4)))
  have HW := Lx.Hd.mk (And.intro wP wQ)
  clear hG hP hQ hE hF hL1 hL2 hL3 hL4 hS1 hS2 hS3 hS4 wP wQ sE sF
  go_enter Tryd.func7, Tryd.ntmps7
  go_upto_region 1 with (fail)
  rename_i Qq Kx hKx Ky hKy
  refine name_world fun W2 hW2 => ?_
  have HB0 : Lx.Hd (Below w.heap.size w W2) := Lx.Hd.mk (by rw [hW2]; exact below_alloc (below_alloc (below_alloc (below_alloc (Below.refl _ _) _) _) _) _)
  have hb4 := blk4 w (.cells #[.int .i64 p.f0, .slice A1 p.f1.length c1, .slice A2 p.f2.length c2, .slice A3 p.f3.length c3] 46 (0, 0)) (.cells #[.int .i64 q.f0, .slice B1 q.f1.length d1, .slice B2 q.f2.length d2, .slice B3 q.f3.length d3] 46 (0, 0)) (.cells #[.int .i64 e.f0, .int .i64 e.f1, .int .i64 e.f2, .int .u32 e.f3, .string e.f4, .slice A5 e.f5.length c5] 25 (0, 0)) (.cells #[.int .i64 f.f0, .int .i64 f.f1, .int .i64 f.f2, .int .u32 f.f3, .string f.f4, .slice B5 f.f5.length d5] 25 (0, 0))
  have hb4' : _ ∧ _ ∧ _ ∧ _ := hb4
  rw [← show W2 = _ from hW2] at hb4'
  obtain ⟨hb1, hb2, hb3, hb4⟩ := hb4'
  have BC1 := Lx.Hd.mk (cellsP_of hb1)
  have BC2 := Lx.Hd.mk (cellsP_of hb2)
  have BC3 := Lx.Hd.mk (cells_of hb3)
  have BC4 := Lx.Hd.mk (cells_of hb4)
  have HR2 : Lx.Hd (RowsP W2 p A1 A2 A3 c1 c2 c3 ∧ RowsP W2 q B1 B2 B3 d1 d2 d3 ∧ RowsE W2 e A5 c5 ∧ RowsE W2 f B5 d5) := Lx.Hd.mk ⟨RowsP.below HR.out.1 HB0.out, RowsP.below HR.out.2.1 HB0.out, RowsE.below HR.out.2.2.1 HB0.out, RowsE.below HR.out.2.2.2 HB0.out⟩
  have HG2 : Lx.Hd (Keys W2) := Lx.Hd.mk (Keys.below HG.out HB0.out)
  have HB : Lx.Hd (Below W2.heap.size W2 W2) := Lx.Hd.mk (Below.refl _ _)
  clear hW2 hb1 hb2 hb3 hb4 HR HG
  generalize w.heap.size + 1 + 1 + 1 = x4 at BC4 ⊢
  generalize w.heap.size + 1 + 1 = x3 at BC3 ⊢
  generalize w.heap.size + 1 = x2 at BC2 ⊢
  generalize w.heap.size = x1 at BC1 ⊢
  obtain ⟨p0, p1, p2, p3⟩ := BC1.out _ HB.out
  obtain ⟨q0, q1, q2, q3⟩ := BC2.out _ HB.out
  obtain ⟨r0, r1, r2, r3, r4, r5⟩ := BC3.out _ HB.out
  obtain ⟨s0, s1, s2, s3, s4, s5⟩ := BC4.out _ HB.out
  cases b1 with
  | false =>
    go_wp2_with (first | (go_at_call 14; (with_reducible refine (lives_any _ ?s1).mono ?_); (case s1 => exact Keys.below HG2.out HB.out); rintro r W3 ⟨rfl, hb⟩; have hn_ := Lx.Hd.mk (below_step HB.out hb); clear hb HB; have HB := hn_; clear hn_; clear p0 p1 p2 p3 q0 q1 q2 q3 r0 r1 r2 r3 r4 r5 s0 s1 s2 s3 s4 s5; obtain ⟨p0, p1, p2, p3⟩ := BC1.out _ HB.out; obtain ⟨q0, q1, q2, q3⟩ := BC2.out _ HB.out; obtain ⟨r0, r1, r2, r3, r4, r5⟩ := BC3.out _ HB.out; obtain ⟨s0, s1, s2, s3, s4, s5⟩ := BC4.out _ HB.out) | (go_at_call 32; (with_reducible refine (lightP_any p HW.out.1 A1 A2 A3 c1 c2 c3 _ ?s1).mono ?_); (case s1 => exact (RowsP.below HR2.out.1 HB.out)); rw [HL1.out]; rintro r W3 ⟨rfl, hb⟩; have hn_ := Lx.Hd.mk (below_step HB.out hb); clear hb HB; have HB := hn_; clear hn_; clear p0 p1 p2 p3 q0 q1 q2 q3 r0 r1 r2 r3 r4 r5 s0 s1 s2 s3 s4 s5; obtain ⟨p0, p1, p2, p3⟩ := BC1.out _ HB.out; obtain ⟨q0, q1, q2, q3⟩ := BC2.out _ HB.out; obtain ⟨r0, r1, r2, r3, r4, r5⟩ := BC3.out _ HB.out; obtain ⟨s0, s1, s2, s3, s4, s5⟩ := BC4.out _ HB.out) | fail)
    go_ret
    exact ⟨rfl, HB0.out.trans (HB.out.mono HB0.out.size)⟩
  | true =>
  cases b2 with
  | false =>
    go_wp2_with (first | (go_at_call 14; (with_reducible refine (lives_any _ ?s1).mono ?_); (case s1 => exact Keys.below HG2.out HB.out); rintro r W3 ⟨rfl, hb⟩; have hn_ := Lx.Hd.mk (below_step HB.out hb); clear hb HB; have HB := hn_; clear hn_; clear p0 p1 p2 p3 q0 q1 q2 q3 r0 r1 r2 r3 r4 r5 s0 s1 s2 s3 s4 s5; obtain ⟨p0, p1, p2, p3⟩ := BC1.out _ HB.out; obtain ⟨q0, q1, q2, q3⟩ := BC2.out _ HB.out; obtain ⟨r0, r1, r2, r3, r4, r5⟩ := BC3.out _ HB.out; obtain ⟨s0, s1, s2, s3, s4, s5⟩ := BC4.out _ HB.out) | (go_at_call 32; (with_reducible refine (lightP_any p HW.out.1 A1 A2 A3 c1 c2 c3 _ ?s1).mono ?_); (case s1 => exact (RowsP.below HR2.out.1 HB.out)); rw [HL1.out]; rintro r W3 ⟨rfl, hb⟩; have hn_ := Lx.Hd.mk (below_step HB.out hb); clear hb HB; have HB := hn_; clear hn_; clear p0 p1 p2 p3 q0 q1 q2 q3 r0 r1 r2 r3 r4 r5 s0 s1 s2 s3 s4 s5; obtain ⟨p0, p1, p2, p3⟩ := BC1.out _ HB.out; obtain ⟨q0, q1, q2, q3⟩ := BC2.out _ HB.out; obtain ⟨r0, r1, r2, r3, r4, r5⟩ := BC3.out _ HB.out; obtain ⟨s0, s1, s2, s3, s4, s5⟩ := BC4.out _ HB.out) | (go_at_call 32; (with_reducible refine (lightP_any q HW.out.2 B1 B2 B3 d1 d2 d3 _ ?s1).mono ?_); (case s1 => exact (RowsP.below HR2.out.2.1 HB.out)); rw [HL2.out]; rintro r W3 ⟨rfl, hb⟩; have hn_ := Lx.Hd.mk (below_step HB.out hb); clear hb HB; have HB := hn_; clear hn_; clear p0 p1 p2 p3 q0 q1 q2 q3 r0 r1 r2 r3 r4 r5 s0 s1 s2 s3 s4 s5; obtain ⟨p0, p1, p2, p3⟩ := BC1.out _ HB.out; obtain ⟨q0, q1, q2, q3⟩ := BC2.out _ HB.out; obtain ⟨r0, r1, r2, r3, r4, r5⟩ := BC3.out _ HB.out; obtain ⟨s0, s1, s2, s3, s4, s5⟩ := BC4.out _ HB.out) | fail)
    go_ret
    exact ⟨rfl, HB0.out.trans (HB.out.mono HB0.out.size)⟩
  | true =>
  cases b3 with
  | false =>
    go_wp2_with (first | (go_at_call 14; (with_reducible refine (lives_any _ ?s1).mono ?_); (case s1 => exact Keys.below HG2.out HB.out); rintro r W3 ⟨rfl, hb⟩; have hn_ := Lx.Hd.mk (below_step HB.out hb); clear hb HB; have HB := hn_; clear hn_; clear p0 p1 p2 p3 q0 q1 q2 q3 r0 r1 r2 r3 r4 r5 s0 s1 s2 s3 s4 s5; obtain ⟨p0, p1, p2, p3⟩ := BC1.out _ HB.out; obtain ⟨q0, q1, q2, q3⟩ := BC2.out _ HB.out; obtain ⟨r0, r1, r2, r3, r4, r5⟩ := BC3.out _ HB.out; obtain ⟨s0, s1, s2, s3, s4, s5⟩ := BC4.out _ HB.out) | (go_at_call 32; (with_reducible refine (lightP_any p HW.out.1 A1 A2 A3 c1 c2 c3 _ ?s1).mono ?_); (case s1 => exact (RowsP.below HR2.out.1 HB.out)); rw [HL1.out]; rintro r W3 ⟨rfl, hb⟩; have hn_ := Lx.Hd.mk (below_step HB.out hb); clear hb HB; have HB := hn_; clear hn_; clear p0 p1 p2 p3 q0 q1 q2 q3 r0 r1 r2 r3 r4 r5 s0 s1 s2 s3 s4 s5; obtain ⟨p0, p1, p2, p3⟩ := BC1.out _ HB.out; obtain ⟨q0, q1, q2, q3⟩ := BC2.out _ HB.out; obtain ⟨r0, r1, r2, r3, r4, r5⟩ := BC3.out _ HB.out; obtain ⟨s0, s1, s2, s3, s4, s5⟩ := BC4.out _ HB.out) | (go_at_call 32; (with_reducible refine (lightP_any q HW.out.2 B1 B2 B3 d1 d2 d3 _ ?s1).mono ?_); (case s1 => exact (RowsP.below HR2.out.2.1 HB.out)); rw [HL2.out]; rintro r W3 ⟨rfl, hb⟩; have hn_ := Lx.Hd.mk (below_step HB.out hb); clear hb HB; have HB := hn_; clear hn_; clear p0 p1 p2 p3 q0 q1 q2 q3 r0 r1 r2 r3 r4 r5 s0 s1 s2 s3 s4 s5; obtain ⟨p0, p1, p2, p3⟩ := BC1.out _ HB.out; obtain ⟨q0, q1, q2, q3⟩ := BC2.out _ HB.out; obtain ⟨r0, r1, r2, r3, r4, r5⟩ := BC3.out _ HB.out; obtain ⟨s0, s1, s2, s3, s4, s5⟩ := BC4.out _ HB.out) | (go_at_call 15; (with_reducible refine (light_calls e k3 _ HL3.out A5 c5 _ ?s1 ?s2).mono ?_); (case s1 => exact HR2.out.2.2.1.2); (case s2 => exact (RowsE.below HR2.out.2.2.1 HB.out).1); rintro r W3 ⟨rfl, hb⟩; have hn_ := Lx.Hd.mk (below_step HB.out hb); clear hb HB; have HB := hn_; clear hn_; clear p0 p1 p2 p3 q0 q1 q2 q3 r0 r1 r2 r3 r4 r5 s0 s1 s2 s3 s4 s5; obtain ⟨p0, p1, p2, p3⟩ := BC1.out _ HB.out; obtain ⟨q0, q1, q2, q3⟩ := BC2.out _ HB.out; obtain ⟨r0, r1, r2, r3, r4, r5⟩ := BC3.out _ HB.out; obtain ⟨s0, s1, s2, s3, s4, s5⟩ := BC4.out _ HB.out) | fail)
    go_ret
    exact ⟨rfl, HB0.out.trans (HB.out.mono HB0.out.size)⟩
  | true =>
  cases b4 with
  | false =>
    go_wp2_with (first | (go_at_call 14; (with_reducible refine (lives_any _ ?s1).mono ?_); (case s1 => exact Keys.below HG2.out HB.out); rintro r W3 ⟨rfl, hb⟩; have hn_ := Lx.Hd.mk (below_step HB.out hb); clear hb HB; have HB := hn_; clear hn_; clear p0 p1 p2 p3 q0 q1 q2 q3 r0 r1 r2 r3 r4 r5 s0 s1 s2 s3 s4 s5; obtain ⟨p0, p1, p2, p3⟩ := BC1.out _ HB.out; obtain ⟨q0, q1, q2, q3⟩ := BC2.out _ HB.out; obtain ⟨r0, r1, r2, r3, r4, r5⟩ := BC3.out _ HB.out; obtain ⟨s0, s1, s2, s3, s4, s5⟩ := BC4.out _ HB.out) | (go_at_call 32; (with_reducible refine (lightP_any p HW.out.1 A1 A2 A3 c1 c2 c3 _ ?s1).mono ?_); (case s1 => exact (RowsP.below HR2.out.1 HB.out)); rw [HL1.out]; rintro r W3 ⟨rfl, hb⟩; have hn_ := Lx.Hd.mk (below_step HB.out hb); clear hb HB; have HB := hn_; clear hn_; clear p0 p1 p2 p3 q0 q1 q2 q3 r0 r1 r2 r3 r4 r5 s0 s1 s2 s3 s4 s5; obtain ⟨p0, p1, p2, p3⟩ := BC1.out _ HB.out; obtain ⟨q0, q1, q2, q3⟩ := BC2.out _ HB.out; obtain ⟨r0, r1, r2, r3, r4, r5⟩ := BC3.out _ HB.out; obtain ⟨s0, s1, s2, s3, s4, s5⟩ := BC4.out _ HB.out) | (go_at_call 32; (with_reducible refine (lightP_any q HW.out.2 B1 B2 B3 d1 d2 d3 _ ?s1).mono ?_); (case s1 => exact (RowsP.below HR2.out.2.1 HB.out)); rw [HL2.out]; rintro r W3 ⟨rfl, hb⟩; have hn_ := Lx.Hd.mk (below_step HB.out hb); clear hb HB; have HB := hn_; clear hn_; clear p0 p1 p2 p3 q0 q1 q2 q3 r0 r1 r2 r3 r4 r5 s0 s1 s2 s3 s4 s5; obtain ⟨p0, p1, p2, p3⟩ := BC1.out _ HB.out; obtain ⟨q0, q1, q2, q3⟩ := BC2.out _ HB.out; obtain ⟨r0, r1, r2, r3, r4, r5⟩ := BC3.out _ HB.out; obtain ⟨s0, s1, s2, s3, s4, s5⟩ := BC4.out _ HB.out) | (go_at_call 15; (with_reducible refine (light_calls e k3 _ HL3.out A5 c5 _ ?s1 ?s2).mono ?_); (case s1 => exact HR2.out.2.2.1.2); (case s2 => exact (RowsE.below HR2.out.2.2.1 HB.out).1); rintro r W3 ⟨rfl, hb⟩; have hn_ := Lx.Hd.mk (below_step HB.out hb); clear hb HB; have HB := hn_; clear hn_; clear p0 p1 p2 p3 q0 q1 q2 q3 r0 r1 r2 r3 r4 r5 s0 s1 s2 s3 s4 s5; obtain ⟨p0, p1, p2, p3⟩ := BC1.out _ HB.out; obtain ⟨q0, q1, q2, q3⟩ := BC2.out _ HB.out; obtain ⟨r0, r1, r2, r3, r4, r5⟩ := BC3.out _ HB.out; obtain ⟨s0, s1, s2, s3, s4, s5⟩ := BC4.out _ HB.out) | (go_at_call 15; (with_reducible refine (light_calls f k4 _ HL4.out B5 d5 _ ?s1 ?s2).mono ?_); (case s1 => exact HR2.out.2.2.2.2); (case s2 => exact (RowsE.below HR2.out.2.2.2 HB.out).1); rintro r W3 ⟨rfl, hb⟩; have hn_ := Lx.Hd.mk (below_step HB.out hb); clear hb HB; have HB := hn_; clear hn_; clear p0 p1 p2 p3 q0 q1 q2 q3 r0 r1 r2 r3 r4 r5 s0 s1 s2 s3 s4 s5; obtain ⟨p0, p1, p2, p3⟩ := BC1.out _ HB.out; obtain ⟨q0, q1, q2, q3⟩ := BC2.out _ HB.out; obtain ⟨r0, r1, r2, r3, r4, r5⟩ := BC3.out _ HB.out; obtain ⟨s0, s1, s2, s3, s4, s5⟩ := BC4.out _ HB.out) | fail)
    go_ret
    exact ⟨rfl, HB0.out.trans (HB.out.mono HB0.out.size)⟩
  | true =>
  obtain ⟨hs1, g1, g2, g3⟩ := HS.out.1 rfl
  obtain ⟨hs2, g4, g5, g6⟩ := HS.out.2.1 rfl
  have hs3 : sizeE e ≤ 300 := HS.out.2.2.1 rfl
  have hs4 : sizeE f ≤ 300 := HS.out.2.2.2 rfl
  have fp := fit_light p HW.out.1 (by omega)
  have fq := fit_light q HW.out.2 (by omega)
  have hl5 : ∀ d ∈ p.f3, deepSs d.f5 ≤ 1099511627776 := fun d hd => by have := sizeDs_mem hd; have := deep_le_Ss d.f5; omega
  have hl6 : ∀ d ∈ q.f3, deepSs d.f5 ≤ 1099511627776 := fun d hd => by have := sizeDs_mem hd; have := deep_le_Ss d.f5; omega
  have hlaw := sames_law p q
  obtain ⟨zp, ezp⟩ : ∃ n : Nat, sizes (nodes p.f3) = n := ⟨_, rfl⟩
  obtain ⟨zq, ezq⟩ : ∃ n : Nat, sizes (nodes q.f3) = n := ⟨_, rfl⟩
  obtain ⟨dp, edp⟩ : ∃ n : Nat, deeps (nodes p.f3) = n := ⟨_, rfl⟩
  obtain ⟨dq, edq⟩ : ∃ n : Nat, deeps (nodes q.f3) = n := ⟨_, rfl⟩
  obtain ⟨np, enp⟩ : ∃ n : Int, checkP p = n := ⟨_, rfl⟩
  obtain ⟨nq, enq⟩ : ∃ n : Int, checkP q = n := ⟨_, rfl⟩
  obtain ⟨lp, elp⟩ : ∃ b : Bool, linedP p = b := ⟨_, rfl⟩
  obtain ⟨lq, elq⟩ : ∃ b : Bool, linedP q = b := ⟨_, rfl⟩
  obtain ⟨sm, esm⟩ : ∃ b : Bool, sameP p q = b := ⟨_, rfl⟩
  obtain ⟨se, ese⟩ : ∃ b : Bool, sameE e f = b := ⟨_, rfl⟩
  rw [esm, ezp, ezq, edp, edq, enp, enq, elp, elq] at hlaw

  have KSM : Lx.Hd (∀ W', Below W2.heap.size W2 W' → Calls Tryd.prog 33 #[.agg #[.int .i64 p.f0, .slice A1 p.f1.length c1, .slice A2 p.f2.length c2, .slice A3 p.f3.length c3], .agg #[.int .i64 q.f0, .slice B1 q.f1.length d1, .slice B2 q.f2.length d2, .slice B3 q.f3.length d3]] W' fun r W'' => r = .returned (.bool sm) ∧ Below W'.heap.size W' W'') := Lx.Hd.mk fun W' hb => by rw [← esm]; exact sameP_any p q A1 A2 A3 c1 c2 c3 B1 B2 B3 d1 d2 d3 W' (RowsP.below HR2.out.1 hb) (RowsP.below HR2.out.2.1 hb)
  have KZP : Lx.Hd (∀ W', Below W2.heap.size W2 W' → Calls Tryd.prog 27 #[.agg #[.int .i64 p.f0, .slice A1 p.f1.length c1, .slice A2 p.f2.length c2, .slice A3 p.f3.length c3]] W' fun r W'' => r = .returned (.int .i64 (zp : Int)) ∧ Below W'.heap.size W' W'') := Lx.Hd.mk fun W' hb => by rw [← ezp]; exact sizeP_calls p fp A1 A2 A3 c1 c2 c3 W' (RowsP.below HR2.out.1 hb)
  have KZQ : Lx.Hd (∀ W', Below W2.heap.size W2 W' → Calls Tryd.prog 27 #[.agg #[.int .i64 q.f0, .slice B1 q.f1.length d1, .slice B2 q.f2.length d2, .slice B3 q.f3.length d3]] W' fun r W'' => r = .returned (.int .i64 (zq : Int)) ∧ Below W'.heap.size W' W'') := Lx.Hd.mk fun W' hb => by rw [← ezq]; exact sizeP_calls q fq B1 B2 B3 d1 d2 d3 W' (RowsP.below HR2.out.2.1 hb)
  have KDP : Lx.Hd (∀ W', Below W2.heap.size W2 W' → Calls Tryd.prog 26 #[.agg #[.int .i64 p.f0, .slice A1 p.f1.length c1, .slice A2 p.f2.length c2, .slice A3 p.f3.length c3]] W' fun r W'' => r = .returned (.int .i64 (dp : Int)) ∧ Below W'.heap.size W' W'') := Lx.Hd.mk fun W' hb => by rw [← edp]; exact deepP_calls p fp A1 A2 A3 c1 c2 c3 W' (RowsP.below HR2.out.1 hb)
  have KDQ : Lx.Hd (∀ W', Below W2.heap.size W2 W' → Calls Tryd.prog 26 #[.agg #[.int .i64 q.f0, .slice B1 q.f1.length d1, .slice B2 q.f2.length d2, .slice B3 q.f3.length d3]] W' fun r W'' => r = .returned (.int .i64 (dq : Int)) ∧ Below W'.heap.size W' W'') := Lx.Hd.mk fun W' hb => by rw [← edq]; exact deepP_calls q fq B1 B2 B3 d1 d2 d3 W' (RowsP.below HR2.out.2.1 hb)
  have KCP : Lx.Hd (∀ W', Below W2.heap.size W2 W' → Calls Tryd.prog 34 #[.agg #[.int .i64 p.f0, .slice A1 p.f1.length c1, .slice A2 p.f2.length c2, .slice A3 p.f3.length c3]] W' fun r W'' => r = .returned (.int .i64 np) ∧ Below W'.heap.size W' W'') := Lx.Hd.mk fun W' hb => by rw [← enp]; exact check_prog p A1 A2 A3 c1 c2 c3 W' (Keys.below HG2.out hb) (RowsP.below HR2.out.1 hb) fp
  have KCQ : Lx.Hd (∀ W', Below W2.heap.size W2 W' → Calls Tryd.prog 34 #[.agg #[.int .i64 q.f0, .slice B1 q.f1.length d1, .slice B2 q.f2.length d2, .slice B3 q.f3.length d3]] W' fun r W'' => r = .returned (.int .i64 nq) ∧ Below W'.heap.size W' W'') := Lx.Hd.mk fun W' hb => by rw [← enq]; exact check_prog q B1 B2 B3 d1 d2 d3 W' (Keys.below HG2.out hb) (RowsP.below HR2.out.2.1 hb) fq
  have KLP : Lx.Hd (∀ W', Below W2.heap.size W2 W' → Calls Tryd.prog 35 #[.agg #[.int .i64 p.f0, .slice A1 p.f1.length c1, .slice A2 p.f2.length c2, .slice A3 p.f3.length c3]] W' fun r W'' => r = .returned (.bool lp) ∧ Below W'.heap.size W' W'') := Lx.Hd.mk fun W' hb => by rw [← elp]; exact lined_any p hl5 A1 A2 A3 c1 c2 c3 W' (RowsP.below HR2.out.1 hb)
  have KLQ : Lx.Hd (∀ W', Below W2.heap.size W2 W' → Calls Tryd.prog 35 #[.agg #[.int .i64 q.f0, .slice B1 q.f1.length d1, .slice B2 q.f2.length d2, .slice B3 q.f3.length d3]] W' fun r W'' => r = .returned (.bool lq) ∧ Below W'.heap.size W' W'') := Lx.Hd.mk fun W' hb => by rw [← elq]; exact lined_any q hl6 B1 B2 B3 d1 d2 d3 W' (RowsP.below HR2.out.2.1 hb)
  have KSE : Lx.Hd (∀ W', Below W2.heap.size W2 W' → Calls Tryd.prog 36 #[.agg #[.int .i64 e.f0, .int .i64 e.f1, .int .i64 e.f2, .int .u32 e.f3, .string e.f4, .slice A5 e.f5.length c5], .agg #[.int .i64 f.f0, .int .i64 f.f1, .int .i64 f.f2, .int .u32 f.f3, .string f.f4, .slice B5 f.f5.length d5]] W' fun r W'' => r = .returned (.bool se) ∧ Below W'.heap.size W' W'') := Lx.Hd.mk fun W' hb => by rw [← ese]; exact sameAt_any (deepE e) e (Nat.le_refl _) f A5 c5 B5 d5 W' (RowsE.below HR2.out.2.2.1 hb) (RowsE.below HR2.out.2.2.2 hb)
  have HLAW := Lx.Hd.mk hlaw
  have HSZ := Lx.Hd.mk (And.intro hs3 hs4)
  have HSE := Lx.Hd.mk ese
  clear hlaw hs1 hs2 hs3 hs4 g1 g2 g3 g4 g5 g6 fp fq hl5 hl6 ezp ezq edp edq enp enq elp elq esm ese HS
  go_upto_region 5 with (first | (go_at_call 14; (with_reducible refine (lives_any _ ?s1).mono ?_); (case s1 => exact Keys.below HG2.out HB.out); rintro r W3 ⟨rfl, hb⟩; have hn_ := Lx.Hd.mk (below_step HB.out hb); clear hb HB; have HB := hn_; clear hn_; clear p0 p1 p2 p3 q0 q1 q2 q3 r0 r1 r2 r3 r4 r5 s0 s1 s2 s3 s4 s5; obtain ⟨p0, p1, p2, p3⟩ := BC1.out _ HB.out; obtain ⟨q0, q1, q2, q3⟩ := BC2.out _ HB.out; obtain ⟨r0, r1, r2, r3, r4, r5⟩ := BC3.out _ HB.out; obtain ⟨s0, s1, s2, s3, s4, s5⟩ := BC4.out _ HB.out) | (go_at_call 32; (with_reducible refine (lightP_any p HW.out.1 A1 A2 A3 c1 c2 c3 _ ?s1).mono ?_); (case s1 => exact (RowsP.below HR2.out.1 HB.out)); rw [HL1.out]; rintro r W3 ⟨rfl, hb⟩; have hn_ := Lx.Hd.mk (below_step HB.out hb); clear hb HB; have HB := hn_; clear hn_; clear p0 p1 p2 p3 q0 q1 q2 q3 r0 r1 r2 r3 r4 r5 s0 s1 s2 s3 s4 s5; obtain ⟨p0, p1, p2, p3⟩ := BC1.out _ HB.out; obtain ⟨q0, q1, q2, q3⟩ := BC2.out _ HB.out; obtain ⟨r0, r1, r2, r3, r4, r5⟩ := BC3.out _ HB.out; obtain ⟨s0, s1, s2, s3, s4, s5⟩ := BC4.out _ HB.out) | (go_at_call 32; (with_reducible refine (lightP_any q HW.out.2 B1 B2 B3 d1 d2 d3 _ ?s1).mono ?_); (case s1 => exact (RowsP.below HR2.out.2.1 HB.out)); rw [HL2.out]; rintro r W3 ⟨rfl, hb⟩; have hn_ := Lx.Hd.mk (below_step HB.out hb); clear hb HB; have HB := hn_; clear hn_; clear p0 p1 p2 p3 q0 q1 q2 q3 r0 r1 r2 r3 r4 r5 s0 s1 s2 s3 s4 s5; obtain ⟨p0, p1, p2, p3⟩ := BC1.out _ HB.out; obtain ⟨q0, q1, q2, q3⟩ := BC2.out _ HB.out; obtain ⟨r0, r1, r2, r3, r4, r5⟩ := BC3.out _ HB.out; obtain ⟨s0, s1, s2, s3, s4, s5⟩ := BC4.out _ HB.out) | (go_at_call 15; (with_reducible refine (light_calls e k3 _ HL3.out A5 c5 _ ?s1 ?s2).mono ?_); (case s1 => exact HR2.out.2.2.1.2); (case s2 => exact (RowsE.below HR2.out.2.2.1 HB.out).1); rintro r W3 ⟨rfl, hb⟩; have hn_ := Lx.Hd.mk (below_step HB.out hb); clear hb HB; have HB := hn_; clear hn_; clear p0 p1 p2 p3 q0 q1 q2 q3 r0 r1 r2 r3 r4 r5 s0 s1 s2 s3 s4 s5; obtain ⟨p0, p1, p2, p3⟩ := BC1.out _ HB.out; obtain ⟨q0, q1, q2, q3⟩ := BC2.out _ HB.out; obtain ⟨r0, r1, r2, r3, r4, r5⟩ := BC3.out _ HB.out; obtain ⟨s0, s1, s2, s3, s4, s5⟩ := BC4.out _ HB.out) | (go_at_call 15; (with_reducible refine (light_calls f k4 _ HL4.out B5 d5 _ ?s1 ?s2).mono ?_); (case s1 => exact HR2.out.2.2.2.2); (case s2 => exact (RowsE.below HR2.out.2.2.2 HB.out).1); rintro r W3 ⟨rfl, hb⟩; have hn_ := Lx.Hd.mk (below_step HB.out hb); clear hb HB; have HB := hn_; clear hn_; clear p0 p1 p2 p3 q0 q1 q2 q3 r0 r1 r2 r3 r4 r5 s0 s1 s2 s3 s4 s5; obtain ⟨p0, p1, p2, p3⟩ := BC1.out _ HB.out; obtain ⟨q0, q1, q2, q3⟩ := BC2.out _ HB.out; obtain ⟨r0, r1, r2, r3, r4, r5⟩ := BC3.out _ HB.out; obtain ⟨s0, s1, s2, s3, s4, s5⟩ := BC4.out _ HB.out) | fail)
  clear HL1 HL2 HL3 HL4 HW
  go_cut [65] (fun v65 wc => v65 = .bool false ∧ Lx.Hd (Below W2.heap.size W2 wc))
  case first =>
    rename_i Kq hKq Jq Kq1 hJq hKq1
    clear hKq
    clear Kq
    clear KSE HSE HSZ
    clear r0 r1 r2 r3 r4 r5 s0 s1 s2 s3 s4 s5
    clear BC3 BC4
    have HBd := Lx.Hd.mk (below_drew HB.out)
    refine start_ (n := 34) (S := fun w' => CellsP w' x1 p A1 A2 A3 c1 c2 c3 ∧ CellsP w' x2 q B1 B2 B3 d1 d2 d3) (ds := []) (fl 34 0) (by kernel_rfl) rfl rfl ⟨BC1.out _ HBd.out, BC2.out _ HBd.out⟩ (fun hHeld => ?_)
    clear HB
    have HB := HBd
    clear HBd
    refine take_ (i := 0) (N := some 32) (v := ?_) (a' := ?_) (fl 34 1) rfl rfl (by kernel_rfl) (fun _ _ _ h => h) (Or.inl ⟨by rfl, ?_⟩) hHeld ?_ ?_
    rotate_left; · (rintro w' ⟨⟨s0, s1, s2, s3⟩, ⟨s4, s5, s6, s7⟩⟩; go_simp; with_reducible rfl)
    rotate_left; · (simp only [Act.put, List.setIfInBounds_toArray, List.set_cons_zero, List.set_cons_succ, i64_w, i32_w]; rfl)
    refine take_ (i := 1) (N := some 33) (v := ?_) (a' := ?_) (fl 34 3) rfl rfl (by kernel_rfl) (fun _ _ _ h => h) (Or.inl ⟨by rfl, ?_⟩) hHeld ?_ ?_
    rotate_left; · (rintro w' ⟨⟨s0, s1, s2, s3⟩, ⟨s4, s5, s6, s7⟩⟩; go_simp; with_reducible rfl)
    rotate_left; · (simp only [Act.put, List.setIfInBounds_toArray, List.set_cons_zero, List.set_cons_succ, i64_w, i32_w]; rfl)
    refine one_ (i := 2) (N := some 34) (fl 34 7) rfl rfl (by kernel_rfl) (by decide) (fun K hK => ?_)
    refine goes_ Tryd.func33 (by kernel_rfl) rfl #[.agg #[.int .i64 p.f0, .slice A1 p.f1.length c1, .slice A2 p.f2.length c2, .slice A3 p.f3.length c3], .agg #[.int .i64 q.f0, .slice B1 q.f1.length d1, .slice B2 q.f2.length d2, .slice B3 q.f3.length d3]] (by rfl) rfl rfl (by (try simp only [List.map_toArray, List.map_cons, List.map_nil]); first | done | rfl) ?_
    with_reducible refine (KSM.out _ ?s1).mono ?_
    (case s1 => exact HB.out)
    rintro r W3 ⟨rfl, hb⟩
    refine ⟨_, rfl, ?_⟩
    have hn_ := Lx.Hd.mk (below_step HB.out hb)
    clear hb HB
    have HB := hn_
    clear hn_
    refine hK.out _ _ ⟨BC1.out _ HB.out, BC2.out _ HB.out⟩ (fun hHeld => ?_)
    clear hK K
    refine norm_ (a' := ?_) ?_ ?_
    rotate_left; · (show Act.put _ (some 34) _ = _; simp only [Act.put, List.setIfInBounds_toArray, List.set_cons_zero, List.set_cons_succ, i64_w, i32_w]; rfl)
    cases sm
    · skip
      refine pure_ (i := 3) (N := some 35) (v := ?_) (a' := ?_) (fl 34 15) rfl rfl (by kernel_rfl) (fun _ _ _ h => h) (Or.inl ⟨by rfl, ?_⟩) ?_ ?_
      rotate_left; · (intro w'; go_simp; with_reducible rfl)
      rotate_left; · (simp only [Act.put, List.setIfInBounds_toArray, List.set_cons_zero, List.set_cons_succ, i64_w, i32_w]; rfl)
      refine pure_ (i := 4) (N := some 36) (v := undef) (a' := ?_) (fl 34 31) rfl rfl (by kernel_rfl) (fun _ _ _ h => h) (Or.inr ⟨by rfl, rfl⟩) ?_ ?_
      rotate_left; · (simp only [Act.put, List.setIfInBounds_toArray, List.set_cons_zero, List.set_cons_succ, i64_w, i32_w]; rfl)
      refine pure_ (i := 5) (N := some 37) (v := undef) (a' := ?_) (fl 34 63) rfl rfl (by kernel_rfl) (fun _ _ _ h => h) (Or.inr ⟨by rfl, rfl⟩) ?_ ?_
      rotate_left; · (simp only [Act.put, List.setIfInBounds_toArray, List.set_cons_zero, List.set_cons_succ, i64_w, i32_w]; rfl)
      refine pure_ (i := 6) (N := some 38) (v := undef) (a' := ?_) (fl 34 127) rfl rfl (by kernel_rfl) (fun _ _ _ h => h) (Or.inr ⟨by rfl, rfl⟩) ?_ ?_
      rotate_left; · (simp only [Act.put, List.setIfInBounds_toArray, List.set_cons_zero, List.set_cons_succ, i64_w, i32_w]; rfl)
      refine pure_ (i := 7) (N := some 39) (v := undef) (a' := ?_) (fl 34 255) rfl rfl (by kernel_rfl) (fun _ _ _ h => h) (Or.inr ⟨by rfl, rfl⟩) ?_ ?_
      rotate_left; · (simp only [Act.put, List.setIfInBounds_toArray, List.set_cons_zero, List.set_cons_succ, i64_w, i32_w]; rfl)
      refine pure_ (i := 8) (N := some 40) (v := undef) (a' := ?_) (fl 34 511) rfl rfl (by kernel_rfl) (fun _ _ _ h => h) (Or.inr ⟨by rfl, rfl⟩) ?_ ?_
      rotate_left; · (simp only [Act.put, List.setIfInBounds_toArray, List.set_cons_zero, List.set_cons_succ, i64_w, i32_w]; rfl)
      refine pure_ (i := 9) (N := some 41) (v := undef) (a' := ?_) (fl 34 1023) rfl rfl (by kernel_rfl) (fun _ _ _ h => h) (Or.inr ⟨by rfl, rfl⟩) ?_ ?_
      rotate_left; · (simp only [Act.put, List.setIfInBounds_toArray, List.set_cons_zero, List.set_cons_succ, i64_w, i32_w]; rfl)
      refine pure_ (i := 10) (N := some 42) (v := undef) (a' := ?_) (fl 34 2047) rfl rfl (by kernel_rfl) (fun _ _ _ h => h) (Or.inr ⟨by rfl, rfl⟩) ?_ ?_
      rotate_left; · (simp only [Act.put, List.setIfInBounds_toArray, List.set_cons_zero, List.set_cons_succ, i64_w, i32_w]; rfl)
      refine pure_ (i := 11) (N := some 43) (v := undef) (a' := ?_) (fl 34 4095) rfl rfl (by kernel_rfl) (fun _ _ _ h => h) (Or.inr ⟨by rfl, rfl⟩) ?_ ?_
      rotate_left; · (simp only [Act.put, List.setIfInBounds_toArray, List.set_cons_zero, List.set_cons_succ, i64_w, i32_w]; rfl)
      refine pure_ (i := 12) (N := some 44) (v := undef) (a' := ?_) (fl 34 8191) rfl rfl (by kernel_rfl) (fun _ _ _ h => h) (Or.inr ⟨by rfl, rfl⟩) ?_ ?_
      rotate_left; · (simp only [Act.put, List.setIfInBounds_toArray, List.set_cons_zero, List.set_cons_succ, i64_w, i32_w]; rfl)
      refine pure_ (i := 13) (N := some 45) (v := undef) (a' := ?_) (fl 34 16383) rfl rfl (by kernel_rfl) (fun _ _ _ h => h) (Or.inr ⟨by rfl, rfl⟩) ?_ ?_
      rotate_left; · (simp only [Act.put, List.setIfInBounds_toArray, List.set_cons_zero, List.set_cons_succ, i64_w, i32_w]; rfl)
      refine pure_ (i := 14) (N := some 46) (v := undef) (a' := ?_) (fl 34 32767) rfl rfl (by kernel_rfl) (fun _ _ _ h => h) (Or.inr ⟨by rfl, rfl⟩) ?_ ?_
      rotate_left; · (simp only [Act.put, List.setIfInBounds_toArray, List.set_cons_zero, List.set_cons_succ, i64_w, i32_w]; rfl)
      refine pure_ (i := 15) (N := some 47) (v := undef) (a' := ?_) (fl 34 65535) rfl rfl (by kernel_rfl) (fun _ _ _ h => h) (Or.inr ⟨by rfl, rfl⟩) ?_ ?_
      rotate_left; · (simp only [Act.put, List.setIfInBounds_toArray, List.set_cons_zero, List.set_cons_succ, i64_w, i32_w]; rfl)
      refine pure_ (i := 16) (N := some 48) (v := undef) (a' := ?_) (fl 34 131071) rfl rfl (by kernel_rfl) (fun _ _ _ h => h) (Or.inr ⟨by rfl, rfl⟩) ?_ ?_
      rotate_left; · (simp only [Act.put, List.setIfInBounds_toArray, List.set_cons_zero, List.set_cons_succ, i64_w, i32_w]; rfl)
      refine pure_ (i := 17) (N := some 49) (v := undef) (a' := ?_) (fl 34 262143) rfl rfl (by kernel_rfl) (fun _ _ _ h => h) (Or.inr ⟨by rfl, rfl⟩) ?_ ?_
      rotate_left; · (simp only [Act.put, List.setIfInBounds_toArray, List.set_cons_zero, List.set_cons_succ, i64_w, i32_w]; rfl)
      refine pure_ (i := 18) (N := some 50) (v := undef) (a' := ?_) (fl 34 524287) rfl rfl (by kernel_rfl) (fun _ _ _ h => h) (Or.inr ⟨by rfl, rfl⟩) ?_ ?_
      rotate_left; · (simp only [Act.put, List.setIfInBounds_toArray, List.set_cons_zero, List.set_cons_succ, i64_w, i32_w]; rfl)
      refine pure_ (i := 19) (N := some 51) (v := undef) (a' := ?_) (fl 34 1048575) rfl rfl (by kernel_rfl) (fun _ _ _ h => h) (Or.inr ⟨by rfl, rfl⟩) ?_ ?_
      rotate_left; · (simp only [Act.put, List.setIfInBounds_toArray, List.set_cons_zero, List.set_cons_succ, i64_w, i32_w]; rfl)
      refine pure_ (i := 20) (N := some 52) (v := undef) (a' := ?_) (fl 34 2097151) rfl rfl (by kernel_rfl) (fun _ _ _ h => h) (Or.inr ⟨by rfl, rfl⟩) ?_ ?_
      rotate_left; · (simp only [Act.put, List.setIfInBounds_toArray, List.set_cons_zero, List.set_cons_succ, i64_w, i32_w]; rfl)
      refine pure_ (i := 21) (N := some 53) (v := undef) (a' := ?_) (fl 34 4194303) rfl rfl (by kernel_rfl) (fun _ _ _ h => h) (Or.inr ⟨by rfl, rfl⟩) ?_ ?_
      rotate_left; · (simp only [Act.put, List.setIfInBounds_toArray, List.set_cons_zero, List.set_cons_succ, i64_w, i32_w]; rfl)
      refine pure_ (i := 22) (N := some 54) (v := undef) (a' := ?_) (fl 34 8388607) rfl rfl (by kernel_rfl) (fun _ _ _ h => h) (Or.inr ⟨by rfl, rfl⟩) ?_ ?_
      rotate_left; · (simp only [Act.put, List.setIfInBounds_toArray, List.set_cons_zero, List.set_cons_succ, i64_w, i32_w]; rfl)
      refine pure_ (i := 23) (N := some 55) (v := undef) (a' := ?_) (fl 34 16777215) rfl rfl (by kernel_rfl) (fun _ _ _ h => h) (Or.inr ⟨by rfl, rfl⟩) ?_ ?_
      rotate_left; · (simp only [Act.put, List.setIfInBounds_toArray, List.set_cons_zero, List.set_cons_succ, i64_w, i32_w]; rfl)
      refine pure_ (i := 24) (N := some 56) (v := undef) (a' := ?_) (fl 34 33554431) rfl rfl (by kernel_rfl) (fun _ _ _ h => h) (Or.inr ⟨by rfl, rfl⟩) ?_ ?_
      rotate_left; · (simp only [Act.put, List.setIfInBounds_toArray, List.set_cons_zero, List.set_cons_succ, i64_w, i32_w]; rfl)
      refine pure_ (i := 25) (N := some 57) (v := undef) (a' := ?_) (fl 34 67108863) rfl rfl (by kernel_rfl) (fun _ _ _ h => h) (Or.inr ⟨by rfl, rfl⟩) ?_ ?_
      rotate_left; · (simp only [Act.put, List.setIfInBounds_toArray, List.set_cons_zero, List.set_cons_succ, i64_w, i32_w]; rfl)
      refine pure_ (i := 26) (N := some 58) (v := undef) (a' := ?_) (fl 34 134217727) rfl rfl (by kernel_rfl) (fun _ _ _ h => h) (Or.inr ⟨by rfl, rfl⟩) ?_ ?_
      rotate_left; · (simp only [Act.put, List.setIfInBounds_toArray, List.set_cons_zero, List.set_cons_succ, i64_w, i32_w]; rfl)
      refine pure_ (i := 27) (N := some 59) (v := undef) (a' := ?_) (fl 34 268435455) rfl rfl (by kernel_rfl) (fun _ _ _ h => h) (Or.inr ⟨by rfl, rfl⟩) ?_ ?_
      rotate_left; · (simp only [Act.put, List.setIfInBounds_toArray, List.set_cons_zero, List.set_cons_succ, i64_w, i32_w]; rfl)
      refine pure_ (i := 28) (N := some 60) (v := undef) (a' := ?_) (fl 34 536870911) rfl rfl (by kernel_rfl) (fun _ _ _ h => h) (Or.inr ⟨by rfl, rfl⟩) ?_ ?_
      rotate_left; · (simp only [Act.put, List.setIfInBounds_toArray, List.set_cons_zero, List.set_cons_succ, i64_w, i32_w]; rfl)
      refine pure_ (i := 29) (N := some 61) (v := undef) (a' := ?_) (fl 34 1073741823) rfl rfl (by kernel_rfl) (fun _ _ _ h => h) (Or.inr ⟨by rfl, rfl⟩) ?_ ?_
      rotate_left; · (simp only [Act.put, List.setIfInBounds_toArray, List.set_cons_zero, List.set_cons_succ, i64_w, i32_w]; rfl)
      refine pure_ (i := 30) (N := some 62) (v := undef) (a' := ?_) (fl 34 2147483647) rfl rfl (by kernel_rfl) (fun _ _ _ h => h) (Or.inr ⟨by rfl, rfl⟩) ?_ ?_
      rotate_left; · (simp only [Act.put, List.setIfInBounds_toArray, List.set_cons_zero, List.set_cons_succ, i64_w, i32_w]; rfl)
      refine pure_ (i := 31) (N := some 63) (v := undef) (a' := ?_) (fl 34 4294967295) rfl rfl (by kernel_rfl) (fun _ _ _ h => h) (Or.inr ⟨by rfl, rfl⟩) ?_ ?_
      rotate_left; · (simp only [Act.put, List.setIfInBounds_toArray, List.set_cons_zero, List.set_cons_succ, i64_w, i32_w]; rfl)
      refine pure_ (i := 32) (N := some 64) (v := undef) (a' := ?_) (fl 34 8589934591) rfl rfl (by kernel_rfl) (fun _ _ _ h => h) (Or.inr ⟨by rfl, rfl⟩) ?_ ?_
      rotate_left; · (simp only [Act.put, List.setIfInBounds_toArray, List.set_cons_zero, List.set_cons_succ, i64_w, i32_w]; rfl)
      refine pure_ (i := 33) (N := some 65) (v := ?_) (a' := ?_) (fl 34 17179869183) rfl rfl (by kernel_rfl) (fun _ _ _ h => h) (Or.inl ⟨by rfl, ?_⟩) ?_ ?_
      rotate_left; · (intro w'; go_simp; with_reducible rfl)
      rotate_left; · (simp only [Act.put, List.setIfInBounds_toArray, List.set_cons_zero, List.set_cons_succ, i64_w, i32_w]; rfl)
      refine done_ (by kernel_rfl) ?_
      go_wp2
      go_meet
      case rel => exact ⟨by first | rfl | (simp; done), HB⟩
    · obtain ⟨e1, e2, e3⟩ := HLAW.out rfl
      subst e1 e2
      have n1 : ((zp : Int) != (zp : Int)) = false := by simp
      have n2 : ((dp : Int) != (dp : Int)) = false := by simp
      have HE3 := Lx.Hd.mk e3
      clear e3 HLAW
      refine pure_ (i := 3) (N := some 35) (v := ?_) (a' := ?_) (fl 34 15) rfl rfl (by kernel_rfl) (fun _ _ _ h => h) (Or.inl ⟨by rfl, ?_⟩) ?_ ?_
      rotate_left; · (intro w'; go_simp; with_reducible rfl)
      rotate_left; · (simp only [Act.put, List.setIfInBounds_toArray, List.set_cons_zero, List.set_cons_succ, i64_w, i32_w]; rfl)
      refine take_ (i := 4) (N := some 36) (v := ?_) (a' := ?_) (fl 34 31) rfl rfl (by kernel_rfl) (fun _ _ _ h => h) (Or.inl ⟨by rfl, ?_⟩) hHeld ?_ ?_
      rotate_left; · (rintro w' ⟨⟨s0, s1, s2, s3⟩, ⟨s4, s5, s6, s7⟩⟩; go_simp; with_reducible rfl)
      rotate_left; · (simp only [Act.put, List.setIfInBounds_toArray, List.set_cons_zero, List.set_cons_succ, i64_w, i32_w]; rfl)
      refine take_ (i := 6) (N := some 38) (v := ?_) (a' := ?_) (fl 34 95) rfl rfl (by kernel_rfl) (fun _ _ _ h => h) (Or.inl ⟨by rfl, ?_⟩) hHeld ?_ ?_
      rotate_left; · (rintro w' ⟨⟨s0, s1, s2, s3⟩, ⟨s4, s5, s6, s7⟩⟩; go_simp; with_reducible rfl)
      rotate_left; · (simp only [Act.put, List.setIfInBounds_toArray, List.set_cons_zero, List.set_cons_succ, i64_w, i32_w]; rfl)
      refine one_ (i := 5) (N := some 37) (fl 34 127) rfl rfl (by kernel_rfl) (by decide) (fun K hK => ?_)
      refine goes_ Tryd.func27 (by kernel_rfl) rfl #[.agg #[.int .i64 p.f0, .slice A1 p.f1.length c1, .slice A2 p.f2.length c2, .slice A3 p.f3.length c3]] (by rfl) rfl rfl (by (try simp only [List.map_toArray, List.map_cons, List.map_nil]); first | done | rfl) ?_
      with_reducible refine (KZP.out _ ?s1).mono ?_
      (case s1 => exact HB.out)
      rintro r W3 ⟨rfl, hb⟩
      refine ⟨_, rfl, ?_⟩
      have hn_ := Lx.Hd.mk (below_step HB.out hb)
      clear hb HB
      have HB := hn_
      clear hn_
      refine hK.out _ _ ⟨BC1.out _ HB.out, BC2.out _ HB.out⟩ (fun hHeld => ?_)
      clear hK K
      refine norm_ (a' := ?_) ?_ ?_
      rotate_left; · (show Act.put _ (some 37) _ = _; simp only [Act.put, List.setIfInBounds_toArray, List.set_cons_zero, List.set_cons_succ, i64_w, i32_w]; rfl)
      refine one_ (i := 7) (N := some 39) (fl 34 255) rfl rfl (by kernel_rfl) (by decide) (fun K hK => ?_)
      refine goes_ Tryd.func27 (by kernel_rfl) rfl #[.agg #[.int .i64 q.f0, .slice B1 q.f1.length d1, .slice B2 q.f2.length d2, .slice B3 q.f3.length d3]] (by rfl) rfl rfl (by (try simp only [List.map_toArray, List.map_cons, List.map_nil]); first | done | rfl) ?_
      with_reducible refine (KZQ.out _ ?s1).mono ?_
      (case s1 => exact HB.out)
      rintro r W3 ⟨rfl, hb⟩
      refine ⟨_, rfl, ?_⟩
      have hn_ := Lx.Hd.mk (below_step HB.out hb)
      clear hb HB
      have HB := hn_
      clear hn_
      refine hK.out _ _ ⟨BC1.out _ HB.out, BC2.out _ HB.out⟩ (fun hHeld => ?_)
      clear hK K
      refine norm_ (a' := ?_) ?_ ?_
      rotate_left; · (show Act.put _ (some 39) _ = _; simp only [Act.put, List.setIfInBounds_toArray, List.set_cons_zero, List.set_cons_succ, i64_w, i32_w]; rfl)
      refine pure_ (i := 8) (N := some 40) (v := ?_) (a' := ?_) (fl 34 511) rfl rfl (by kernel_rfl) (fun _ _ _ h => h) (Or.inl ⟨by rfl, ?_⟩) ?_ ?_
      rotate_left; · (intro w'; go_simp; with_reducible rfl)
      rotate_left; · (simp only [Act.put, List.setIfInBounds_toArray, List.set_cons_zero, List.set_cons_succ, i64_w, i32_w]; rfl)
      refine pure_ (i := 9) (N := some 41) (v := ?_) (a' := ?_) (fl 34 1023) rfl rfl (by kernel_rfl) (fun _ _ _ h => h) (Or.inl ⟨by rfl, ?_⟩) ?_ ?_
      rotate_left; · (intro w'; go_simp; with_reducible rfl)
      rotate_left; · (simp only [Act.put, List.setIfInBounds_toArray, List.set_cons_zero, List.set_cons_succ, i64_w, i32_w]; rfl)
      refine take_ (i := 10) (N := some 42) (v := ?_) (a' := ?_) (fl 34 2047) rfl rfl (by kernel_rfl) (fun _ _ _ h => h) (Or.inl ⟨by rfl, ?_⟩) hHeld ?_ ?_
      rotate_left; · (rintro w' ⟨⟨s0, s1, s2, s3⟩, ⟨s4, s5, s6, s7⟩⟩; go_simp; with_reducible rfl)
      rotate_left; · (simp only [Act.put, List.setIfInBounds_toArray, List.set_cons_zero, List.set_cons_succ, i64_w, i32_w]; rfl)
      refine take_ (i := 12) (N := some 44) (v := ?_) (a' := ?_) (fl 34 6143) rfl rfl (by kernel_rfl) (fun _ _ _ h => h) (Or.inl ⟨by rfl, ?_⟩) hHeld ?_ ?_
      rotate_left; · (rintro w' ⟨⟨s0, s1, s2, s3⟩, ⟨s4, s5, s6, s7⟩⟩; go_simp; with_reducible rfl)
      rotate_left; · (simp only [Act.put, List.setIfInBounds_toArray, List.set_cons_zero, List.set_cons_succ, i64_w, i32_w]; rfl)
      refine one_ (i := 11) (N := some 43) (fl 34 8191) rfl rfl (by kernel_rfl) (by decide) (fun K hK => ?_)
      refine goes_ Tryd.func26 (by kernel_rfl) rfl #[.agg #[.int .i64 p.f0, .slice A1 p.f1.length c1, .slice A2 p.f2.length c2, .slice A3 p.f3.length c3]] (by rfl) rfl rfl (by (try simp only [List.map_toArray, List.map_cons, List.map_nil]); first | done | rfl) ?_
      with_reducible refine (KDP.out _ ?s1).mono ?_
      (case s1 => exact HB.out)
      rintro r W3 ⟨rfl, hb⟩
      refine ⟨_, rfl, ?_⟩
      have hn_ := Lx.Hd.mk (below_step HB.out hb)
      clear hb HB
      have HB := hn_
      clear hn_
      refine hK.out _ _ ⟨BC1.out _ HB.out, BC2.out _ HB.out⟩ (fun hHeld => ?_)
      clear hK K
      refine norm_ (a' := ?_) ?_ ?_
      rotate_left; · (show Act.put _ (some 43) _ = _; simp only [Act.put, List.setIfInBounds_toArray, List.set_cons_zero, List.set_cons_succ, i64_w, i32_w]; rfl)
      refine one_ (i := 13) (N := some 45) (fl 34 16383) rfl rfl (by kernel_rfl) (by decide) (fun K hK => ?_)
      refine goes_ Tryd.func26 (by kernel_rfl) rfl #[.agg #[.int .i64 q.f0, .slice B1 q.f1.length d1, .slice B2 q.f2.length d2, .slice B3 q.f3.length d3]] (by rfl) rfl rfl (by (try simp only [List.map_toArray, List.map_cons, List.map_nil]); first | done | rfl) ?_
      with_reducible refine (KDQ.out _ ?s1).mono ?_
      (case s1 => exact HB.out)
      rintro r W3 ⟨rfl, hb⟩
      refine ⟨_, rfl, ?_⟩
      have hn_ := Lx.Hd.mk (below_step HB.out hb)
      clear hb HB
      have HB := hn_
      clear hn_
      refine hK.out _ _ ⟨BC1.out _ HB.out, BC2.out _ HB.out⟩ (fun hHeld => ?_)
      clear hK K
      refine norm_ (a' := ?_) ?_ ?_
      rotate_left; · (show Act.put _ (some 45) _ = _; simp only [Act.put, List.setIfInBounds_toArray, List.set_cons_zero, List.set_cons_succ, i64_w, i32_w]; rfl)
      refine pure_ (i := 14) (N := some 46) (v := ?_) (a' := ?_) (fl 34 32767) rfl rfl (by kernel_rfl) (fun _ _ _ h => h) (Or.inl ⟨by rfl, ?_⟩) ?_ ?_
      rotate_left; · (intro w'; go_simp; with_reducible rfl)
      rotate_left; · (simp only [Act.put, List.setIfInBounds_toArray, List.set_cons_zero, List.set_cons_succ, i64_w, i32_w]; rfl)
      refine pure_ (i := 15) (N := some 47) (v := ?_) (a' := ?_) (fl 34 65535) rfl rfl (by kernel_rfl) (fun _ _ _ h => h) (Or.inl ⟨by rfl, ?_⟩) ?_ ?_
      rotate_left; · (intro w'; go_simp; with_reducible rfl)
      rotate_left; · (simp only [Act.put, List.setIfInBounds_toArray, List.set_cons_zero, List.set_cons_succ, i64_w, i32_w]; rfl)
      refine pure_ (i := 16) (N := some 48) (v := ?_) (a' := ?_) (fl 34 131071) rfl rfl (by kernel_rfl) (fun _ _ _ h => h) (Or.inl ⟨by rfl, ?_⟩) ?_ ?_
      rotate_left; · (intro w'; go_simp; with_reducible rfl)
      rotate_left; · (simp only [Act.put, List.setIfInBounds_toArray, List.set_cons_zero, List.set_cons_succ, i64_w, i32_w]; rfl)
      refine take_ (i := 17) (N := some 49) (v := ?_) (a' := ?_) (fl 34 262143) rfl rfl (by kernel_rfl) (fun _ _ _ h => h) (Or.inl ⟨by rfl, ?_⟩) hHeld ?_ ?_
      rotate_left; · (rintro w' ⟨⟨s0, s1, s2, s3⟩, ⟨s4, s5, s6, s7⟩⟩; go_simp; with_reducible rfl)
      rotate_left; · (simp only [Act.put, List.setIfInBounds_toArray, List.set_cons_zero, List.set_cons_succ, i64_w, i32_w]; rfl)
      refine take_ (i := 20) (N := some 52) (v := ?_) (a' := ?_) (fl 34 1310719) rfl rfl (by kernel_rfl) (fun _ _ _ h => h) (Or.inl ⟨by rfl, ?_⟩) hHeld ?_ ?_
      rotate_left; · (rintro w' ⟨⟨s0, s1, s2, s3⟩, ⟨s4, s5, s6, s7⟩⟩; go_simp; with_reducible rfl)
      rotate_left; · (simp only [Act.put, List.setIfInBounds_toArray, List.set_cons_zero, List.set_cons_succ, i64_w, i32_w]; rfl)
      refine one_ (i := 18) (N := some 50) (fl 34 1572863) rfl rfl (by kernel_rfl) (by decide) (fun K hK => ?_)
      refine goes_ Tryd.func34 (by kernel_rfl) rfl #[.agg #[.int .i64 p.f0, .slice A1 p.f1.length c1, .slice A2 p.f2.length c2, .slice A3 p.f3.length c3]] (by rfl) rfl rfl (by (try simp only [List.map_toArray, List.map_cons, List.map_nil]); first | done | rfl) ?_
      with_reducible refine (KCP.out _ ?s1).mono ?_
      (case s1 => exact HB.out)
      rintro r W3 ⟨rfl, hb⟩
      refine ⟨_, rfl, ?_⟩
      have hn_ := Lx.Hd.mk (below_step HB.out hb)
      clear hb HB
      have HB := hn_
      clear hn_
      refine hK.out _ _ ⟨BC1.out _ HB.out, BC2.out _ HB.out⟩ (fun hHeld => ?_)
      clear hK K
      refine norm_ (a' := ?_) ?_ ?_
      rotate_left; · (show Act.put _ (some 50) _ = _; simp only [Act.put, List.setIfInBounds_toArray, List.set_cons_zero, List.set_cons_succ, i64_w, i32_w]; rfl)
      refine pure_ (i := 19) (N := some 51) (v := ?_) (a' := ?_) (fl 34 2097151) rfl rfl (by kernel_rfl) (fun _ _ _ h => h) (Or.inl ⟨by rfl, ?_⟩) ?_ ?_
      rotate_left; · (intro w'; go_simp; with_reducible rfl)
      rotate_left; · (simp only [Act.put, List.setIfInBounds_toArray, List.set_cons_zero, List.set_cons_succ, i64_w, i32_w]; rfl)
      refine one_ (i := 21) (N := some 53) (fl 34 4194303) rfl rfl (by kernel_rfl) (by decide) (fun K hK => ?_)
      refine goes_ Tryd.func34 (by kernel_rfl) rfl #[.agg #[.int .i64 q.f0, .slice B1 q.f1.length d1, .slice B2 q.f2.length d2, .slice B3 q.f3.length d3]] (by rfl) rfl rfl (by (try simp only [List.map_toArray, List.map_cons, List.map_nil]); first | done | rfl) ?_
      with_reducible refine (KCQ.out _ ?s1).mono ?_
      (case s1 => exact HB.out)
      rintro r W3 ⟨rfl, hb⟩
      refine ⟨_, rfl, ?_⟩
      have hn_ := Lx.Hd.mk (below_step HB.out hb)
      clear hb HB
      have HB := hn_
      clear hn_
      refine hK.out _ _ ⟨BC1.out _ HB.out, BC2.out _ HB.out⟩ (fun hHeld => ?_)
      clear hK K
      refine norm_ (a' := ?_) ?_ ?_
      rotate_left; · (show Act.put _ (some 53) _ = _; simp only [Act.put, List.setIfInBounds_toArray, List.set_cons_zero, List.set_cons_succ, i64_w, i32_w]; rfl)
      refine pure_ (i := 22) (N := some 54) (v := ?_) (a' := ?_) (fl 34 8388607) rfl rfl (by kernel_rfl) (fun _ _ _ h => h) (Or.inl ⟨by rfl, ?_⟩) ?_ ?_
      rotate_left; · (intro w'; go_simp; with_reducible rfl)
      rotate_left; · (simp only [Act.put, List.setIfInBounds_toArray, List.set_cons_zero, List.set_cons_succ, i64_w, i32_w]; rfl)
      by_cases hx : (np == 0) = (nq == 0)
      · obtain ⟨x, hxp⟩ : ∃ b, (np == 0) = b := ⟨_, rfl⟩
        have hxq : (nq == 0) = x := hx ▸ hxp
        clear hx
        (try rw [hxp])
        (try rw [hxq])
        refine pure_ (i := 23) (N := some 55) (v := ?_) (a' := ?_) (fl 34 16777215) rfl rfl (by kernel_rfl) (fun _ _ _ h => h) (Or.inl ⟨by rfl, ?_⟩) ?_ ?_
        rotate_left; · (intro w'; go_simp; with_reducible rfl)
        rotate_left; · (simp only [Act.put, List.setIfInBounds_toArray, List.set_cons_zero, List.set_cons_succ, i64_w, i32_w]; rfl)
        refine pure_ (i := 24) (N := some 56) (v := ?_) (a' := ?_) (fl 34 33554431) rfl rfl (by kernel_rfl) (fun _ _ _ h => h) (Or.inl ⟨by rfl, ?_⟩) ?_ ?_
        rotate_left; · (intro w'; go_simp; with_reducible rfl)
        rotate_left; · (simp only [Act.put, List.setIfInBounds_toArray, List.set_cons_zero, List.set_cons_succ, i64_w, i32_w]; rfl)
        refine pure_ (i := 25) (N := some 57) (v := undef) (a' := ?_) (fl 34 67108863) rfl rfl (by kernel_rfl) (fun _ _ _ h => h) (Or.inr ⟨by rfl, rfl⟩) ?_ ?_
        rotate_left; · (simp only [Act.put, List.setIfInBounds_toArray, List.set_cons_zero, List.set_cons_succ, i64_w, i32_w]; rfl)
        refine pure_ (i := 26) (N := some 58) (v := undef) (a' := ?_) (fl 34 134217727) rfl rfl (by kernel_rfl) (fun _ _ _ h => h) (Or.inr ⟨by rfl, rfl⟩) ?_ ?_
        rotate_left; · (simp only [Act.put, List.setIfInBounds_toArray, List.set_cons_zero, List.set_cons_succ, i64_w, i32_w]; rfl)
        refine pure_ (i := 27) (N := some 59) (v := ?_) (a' := ?_) (fl 34 268435455) rfl rfl (by kernel_rfl) (fun _ _ _ h => h) (Or.inl ⟨by rfl, ?_⟩) ?_ ?_
        rotate_left; · (intro w'; go_simp; with_reducible rfl)
        rotate_left; · (simp only [Act.put, List.setIfInBounds_toArray, List.set_cons_zero, List.set_cons_succ, i64_w, i32_w]; rfl)
        refine pure_ (i := 28) (N := some 60) (v := ?_) (a' := ?_) (fl 34 536870911) rfl rfl (by kernel_rfl) (fun _ _ _ h => h) (Or.inl ⟨by rfl, ?_⟩) ?_ ?_
        rotate_left; · (intro w'; go_simp; with_reducible rfl)
        rotate_left; · (simp only [Act.put, List.setIfInBounds_toArray, List.set_cons_zero, List.set_cons_succ, i64_w, i32_w]; rfl)
        refine pure_ (i := 29) (N := some 61) (v := undef) (a' := ?_) (fl 34 1073741823) rfl rfl (by kernel_rfl) (fun _ _ _ h => h) (Or.inr ⟨by rfl, rfl⟩) ?_ ?_
        rotate_left; · (simp only [Act.put, List.setIfInBounds_toArray, List.set_cons_zero, List.set_cons_succ, i64_w, i32_w]; rfl)
        refine pure_ (i := 30) (N := some 62) (v := undef) (a' := ?_) (fl 34 2147483647) rfl rfl (by kernel_rfl) (fun _ _ _ h => h) (Or.inr ⟨by rfl, rfl⟩) ?_ ?_
        rotate_left; · (simp only [Act.put, List.setIfInBounds_toArray, List.set_cons_zero, List.set_cons_succ, i64_w, i32_w]; rfl)
        refine pure_ (i := 31) (N := some 63) (v := ?_) (a' := ?_) (fl 34 4294967295) rfl rfl (by kernel_rfl) (fun _ _ _ h => h) (Or.inl ⟨by rfl, ?_⟩) ?_ ?_
        rotate_left; · (intro w'; go_simp; with_reducible rfl)
        rotate_left; · (simp only [Act.put, List.setIfInBounds_toArray, List.set_cons_zero, List.set_cons_succ, i64_w, i32_w]; rfl)
        refine pure_ (i := 32) (N := some 64) (v := ?_) (a' := ?_) (fl 34 8589934591) rfl rfl (by kernel_rfl) (fun _ _ _ h => h) (Or.inl ⟨by rfl, ?_⟩) ?_ ?_
        rotate_left; · (intro w'; go_simp; with_reducible rfl)
        rotate_left; · (simp only [Act.put, List.setIfInBounds_toArray, List.set_cons_zero, List.set_cons_succ, i64_w, i32_w]; rfl)
        refine pure_ (i := 33) (N := some 65) (v := ?_) (a' := ?_) (fl 34 17179869183) rfl rfl (by kernel_rfl) (fun _ _ _ h => h) (Or.inl ⟨by rfl, ?_⟩) ?_ ?_
        rotate_left; · (intro w'; go_simp; with_reducible rfl)
        rotate_left; · (simp only [Act.put, List.setIfInBounds_toArray, List.set_cons_zero, List.set_cons_succ, i64_w, i32_w]; rfl)
        refine done_ (by kernel_rfl) ?_
        go_wp2
        go_meet
        case rel => exact ⟨by first | rfl | (simp; done), HB⟩
      · obtain ⟨x, hxp⟩ : ∃ b, (np == 0) = b := ⟨_, rfl⟩
        have hxq : (nq == 0) = !x := hxp ▸ bool_ne hx
        (try rw [hxp])
        (try rw [hxq])
        refine pure_ (i := 23) (N := some 55) (v := ?_) (a' := ?_) (fl 34 16777215) rfl rfl (by kernel_rfl) (fun _ _ _ h => h) (Or.inl ⟨by rfl, ?_⟩) ?_ ?_
        rotate_left; · (intro w'; go_simp; with_reducible rfl)
        rotate_left; · (simp only [Act.put, List.setIfInBounds_toArray, List.set_cons_zero, List.set_cons_succ, i64_w, i32_w]; rfl)
        refine pure_ (i := 24) (N := some 56) (v := ?_) (a' := ?_) (fl 34 33554431) rfl rfl (by kernel_rfl) (fun _ _ _ h => h) (Or.inl ⟨by rfl, ?_⟩) ?_ ?_
        rotate_left; · (intro w'; go_simp; with_reducible rfl)
        rotate_left; · (simp only [Act.put, List.setIfInBounds_toArray, List.set_cons_zero, List.set_cons_succ, i64_w, i32_w]; rfl)
        refine take_ (i := 25) (N := some 57) (v := ?_) (a' := ?_) (fl 34 67108863) rfl rfl (by kernel_rfl) (fun _ _ _ h => h) (Or.inl ⟨by rfl, ?_⟩) hHeld ?_ ?_
        rotate_left; · (rintro w' ⟨⟨s0, s1, s2, s3⟩, ⟨s4, s5, s6, s7⟩⟩; go_simp; with_reducible rfl)
        rotate_left; · (simp only [Act.put, List.setIfInBounds_toArray, List.set_cons_zero, List.set_cons_succ, i64_w, i32_w]; rfl)
        refine one_ (i := 26) (N := some 58) (fl 34 134217727) rfl rfl (by kernel_rfl) (by decide) (fun K hK => ?_)
        refine goes_ Tryd.func35 (by kernel_rfl) rfl #[.agg #[.int .i64 p.f0, .slice A1 p.f1.length c1, .slice A2 p.f2.length c2, .slice A3 p.f3.length c3]] (by rfl) rfl rfl (by (try simp only [List.map_toArray, List.map_cons, List.map_nil]); first | done | rfl) ?_
        with_reducible refine (KLP.out _ ?s1).mono ?_
        (case s1 => exact HB.out)
        rintro r W3 ⟨rfl, hb⟩
        refine ⟨_, rfl, ?_⟩
        have hn_ := Lx.Hd.mk (below_step HB.out hb)
        clear hb HB
        have HB := hn_
        clear hn_
        refine hK.out _ _ ⟨BC1.out _ HB.out, BC2.out _ HB.out⟩ (fun hHeld => ?_)
        clear hK K
        refine norm_ (a' := ?_) ?_ ?_
        rotate_left; · (show Act.put _ (some 58) _ = _; simp only [Act.put, List.setIfInBounds_toArray, List.set_cons_zero, List.set_cons_succ, i64_w, i32_w]; rfl)
        cases lp
        · clear hx
          refine pure_ (i := 27) (N := some 59) (v := ?_) (a' := ?_) (fl 34 268435455) rfl rfl (by kernel_rfl) (fun _ _ _ h => h) (Or.inl ⟨by rfl, ?_⟩) ?_ ?_
          rotate_left; · (intro w'; go_simp; with_reducible rfl)
          rotate_left; · (simp only [Act.put, List.setIfInBounds_toArray, List.set_cons_zero, List.set_cons_succ, i64_w, i32_w]; rfl)
          refine pure_ (i := 28) (N := some 60) (v := ?_) (a' := ?_) (fl 34 536870911) rfl rfl (by kernel_rfl) (fun _ _ _ h => h) (Or.inl ⟨by rfl, ?_⟩) ?_ ?_
          rotate_left; · (intro w'; go_simp; with_reducible rfl)
          rotate_left; · (simp only [Act.put, List.setIfInBounds_toArray, List.set_cons_zero, List.set_cons_succ, i64_w, i32_w]; rfl)
          refine pure_ (i := 29) (N := some 61) (v := undef) (a' := ?_) (fl 34 1073741823) rfl rfl (by kernel_rfl) (fun _ _ _ h => h) (Or.inr ⟨by rfl, rfl⟩) ?_ ?_
          rotate_left; · (simp only [Act.put, List.setIfInBounds_toArray, List.set_cons_zero, List.set_cons_succ, i64_w, i32_w]; rfl)
          refine pure_ (i := 30) (N := some 62) (v := undef) (a' := ?_) (fl 34 2147483647) rfl rfl (by kernel_rfl) (fun _ _ _ h => h) (Or.inr ⟨by rfl, rfl⟩) ?_ ?_
          rotate_left; · (simp only [Act.put, List.setIfInBounds_toArray, List.set_cons_zero, List.set_cons_succ, i64_w, i32_w]; rfl)
          refine pure_ (i := 31) (N := some 63) (v := ?_) (a' := ?_) (fl 34 4294967295) rfl rfl (by kernel_rfl) (fun _ _ _ h => h) (Or.inl ⟨by rfl, ?_⟩) ?_ ?_
          rotate_left; · (intro w'; go_simp; with_reducible rfl)
          rotate_left; · (simp only [Act.put, List.setIfInBounds_toArray, List.set_cons_zero, List.set_cons_succ, i64_w, i32_w]; rfl)
          refine pure_ (i := 32) (N := some 64) (v := ?_) (a' := ?_) (fl 34 8589934591) rfl rfl (by kernel_rfl) (fun _ _ _ h => h) (Or.inl ⟨by rfl, ?_⟩) ?_ ?_
          rotate_left; · (intro w'; go_simp; with_reducible rfl)
          rotate_left; · (simp only [Act.put, List.setIfInBounds_toArray, List.set_cons_zero, List.set_cons_succ, i64_w, i32_w]; rfl)
          refine pure_ (i := 33) (N := some 65) (v := ?_) (a' := ?_) (fl 34 17179869183) rfl rfl (by kernel_rfl) (fun _ _ _ h => h) (Or.inl ⟨by rfl, ?_⟩) ?_ ?_
          rotate_left; · (intro w'; go_simp; with_reducible rfl)
          rotate_left; · (simp only [Act.put, List.setIfInBounds_toArray, List.set_cons_zero, List.set_cons_succ, i64_w, i32_w]; rfl)
          refine done_ (by kernel_rfl) ?_
          go_wp2
          go_meet
          case rel => exact ⟨by first | rfl | (simp; done), HB⟩
        · cases lq
          · clear hx
            refine pure_ (i := 27) (N := some 59) (v := ?_) (a' := ?_) (fl 34 268435455) rfl rfl (by kernel_rfl) (fun _ _ _ h => h) (Or.inl ⟨by rfl, ?_⟩) ?_ ?_
            rotate_left; · (intro w'; go_simp; with_reducible rfl)
            rotate_left; · (simp only [Act.put, List.setIfInBounds_toArray, List.set_cons_zero, List.set_cons_succ, i64_w, i32_w]; rfl)
            refine pure_ (i := 28) (N := some 60) (v := ?_) (a' := ?_) (fl 34 536870911) rfl rfl (by kernel_rfl) (fun _ _ _ h => h) (Or.inl ⟨by rfl, ?_⟩) ?_ ?_
            rotate_left; · (intro w'; go_simp; with_reducible rfl)
            rotate_left; · (simp only [Act.put, List.setIfInBounds_toArray, List.set_cons_zero, List.set_cons_succ, i64_w, i32_w]; rfl)
            refine take_ (i := 29) (N := some 61) (v := ?_) (a' := ?_) (fl 34 1073741823) rfl rfl (by kernel_rfl) (fun _ _ _ h => h) (Or.inl ⟨by rfl, ?_⟩) hHeld ?_ ?_
            rotate_left; · (rintro w' ⟨⟨s0, s1, s2, s3⟩, ⟨s4, s5, s6, s7⟩⟩; go_simp; with_reducible rfl)
            rotate_left; · (simp only [Act.put, List.setIfInBounds_toArray, List.set_cons_zero, List.set_cons_succ, i64_w, i32_w]; rfl)
            refine one_ (i := 30) (N := some 62) (fl 34 2147483647) rfl rfl (by kernel_rfl) (by decide) (fun K hK => ?_)
            refine goes_ Tryd.func35 (by kernel_rfl) rfl #[.agg #[.int .i64 q.f0, .slice B1 q.f1.length d1, .slice B2 q.f2.length d2, .slice B3 q.f3.length d3]] (by rfl) rfl rfl (by (try simp only [List.map_toArray, List.map_cons, List.map_nil]); first | done | rfl) ?_
            with_reducible refine (KLQ.out _ ?s1).mono ?_
            (case s1 => exact HB.out)
            rintro r W3 ⟨rfl, hb⟩
            refine ⟨_, rfl, ?_⟩
            have hn_ := Lx.Hd.mk (below_step HB.out hb)
            clear hb HB
            have HB := hn_
            clear hn_
            refine hK.out _ _ ⟨BC1.out _ HB.out, BC2.out _ HB.out⟩ (fun hHeld => ?_)
            clear hK K
            refine norm_ (a' := ?_) ?_ ?_
            rotate_left; · (show Act.put _ (some 62) _ = _; simp only [Act.put, List.setIfInBounds_toArray, List.set_cons_zero, List.set_cons_succ, i64_w, i32_w]; rfl)
            refine pure_ (i := 31) (N := some 63) (v := ?_) (a' := ?_) (fl 34 4294967295) rfl rfl (by kernel_rfl) (fun _ _ _ h => h) (Or.inl ⟨by rfl, ?_⟩) ?_ ?_
            rotate_left; · (intro w'; go_simp; with_reducible rfl)
            rotate_left; · (simp only [Act.put, List.setIfInBounds_toArray, List.set_cons_zero, List.set_cons_succ, i64_w, i32_w]; rfl)
            refine pure_ (i := 32) (N := some 64) (v := ?_) (a' := ?_) (fl 34 8589934591) rfl rfl (by kernel_rfl) (fun _ _ _ h => h) (Or.inl ⟨by rfl, ?_⟩) ?_ ?_
            rotate_left; · (intro w'; go_simp; with_reducible rfl)
            rotate_left; · (simp only [Act.put, List.setIfInBounds_toArray, List.set_cons_zero, List.set_cons_succ, i64_w, i32_w]; rfl)
            refine pure_ (i := 33) (N := some 65) (v := ?_) (a' := ?_) (fl 34 17179869183) rfl rfl (by kernel_rfl) (fun _ _ _ h => h) (Or.inl ⟨by rfl, ?_⟩) ?_ ?_
            rotate_left; · (intro w'; go_simp; with_reducible rfl)
            rotate_left; · (simp only [Act.put, List.setIfInBounds_toArray, List.set_cons_zero, List.set_cons_succ, i64_w, i32_w]; rfl)
            refine done_ (by kernel_rfl) ?_
            go_wp2
            go_meet
            case rel => exact ⟨by first | rfl | (simp; done), HB⟩
          · exact absurd (by rw [HE3.out rfl rfl]) hx
  case rest =>
  obtain ⟨rfl, HB⟩ := hcut
  go_upto_region 7 with (fail)
  refine name_world fun W5 hW5 => ?_
  subst hW5
  have HB5 : Lx.Hd (Below w.heap.size w W5) := Lx.Hd.mk (HB0.out.trans (HB.out.mono HB0.out.size))
  clear p0 p1 p2 p3 q0 q1 q2 q3 r0 r1 r2 r3 r4 r5 s0 s1 s2 s3 s4 s5 KSM KZP KZQ KDP KDQ KCP KCQ KLP KLQ HLAW BC1 BC2
  obtain ⟨r0, r1, r2, r3, r4, r5⟩ := BC3.out _ HB.out
  obtain ⟨s0, s1, s2, s3, s4, s5⟩ := BC4.out _ HB.out
  go_upto_region 8 with (fail)
  refine name_world fun W6 hW6 => ?_
  have hBW6 : Below W5.heap.size W5 W6 := by rw [hW6]; exact below_alloc (below_alloc (Below.refl _ _) _) _
  have hzW6 : (W5.alloc (.cells #[.int .i64 e.f0, .int .i64 e.f1, .int .i64 e.f2, .int .u32 e.f3, .string e.f4, .slice A5 e.f5.length c5, .int .i64 f.f0, .int .i64 f.f1, .int .i64 f.f2, .int .u32 f.f3, .string f.f4, .slice B5 f.f5.length d5] 25)).heap.size = W5.heap.size + 1 := by simp
  have hgW6 : W6.heap[W5.heap.size]? = some (.cells #[.int .i64 e.f0, .int .i64 e.f1, .int .i64 e.f2, .int .u32 e.f3, .string e.f4, .slice A5 e.f5.length c5, .int .i64 f.f0, .int .i64 f.f1, .int .i64 f.f2, .int .u32 f.f3, .string f.f4, .slice B5 f.f5.length d5] 25 (0, 0)) := by rw [hW6]; exact blk_alloc (World.alloc_heap_new _ _) _
  have hkW6 : W6.heap[W5.heap.size + 1]? = some (.cells #[.int .i64 6, .int .i64 2, .int .i64 0, .int .u32 0, .string ⟨#[]⟩, .slice (some ⟨W5.heap.size, 0, none⟩) 2 2] 25 (0, 0)) := by rw [hW6, ← hzW6]; exact World.alloc_heap_new _ _
  have BWW6 : Lx.Hd (Below W2.heap.size W2 W6) := Lx.Hd.mk (HB.out.trans (hBW6.mono HB.out.size))
  have hrW6 : kE.C W6 (some ⟨W5.heap.size, 0, none⟩) 2 [e, f] := row_two HR2.out.2.2.1.2 HR2.out.2.2.2.2 (RowsE.below HR2.out.2.2.1 BWW6.out).1 (RowsE.below HR2.out.2.2.2 BWW6.out).1 hgW6
  obtain ⟨sab, hsab⟩ : ∃ x, subE e f = x := ⟨_, rfl⟩
  have BXW6 : Lx.Hd (∀ W', Below W6.heap.size W6 W' → CellsE W' (W5.heap.size + 1) sab (some ⟨W5.heap.size, 0, none⟩) 2) := Lx.Hd.mk (by rw [← hsab]; exact cells_of (x := subE e f) hkW6)
  have HSab := Lx.Hd.mk hsab
  clear hsab
  have HRW6 := Lx.Hd.mk hrW6
  have HBW6' := Lx.Hd.mk (HB5.out.trans (hBW6.mono HB5.out.size))
  clear hW6 hzW6 hgW6 hkW6 hrW6 hBW6 r0 r1 r2 r3 r4 r5 s0 s1 s2 s3 s4 s5 HB HB5
  have HB := BWW6
  have HB5 := HBW6'
  clear BWW6 HBW6'
  generalize some (⟨W5.heap.size, 0, none⟩ : Addr) = Aab at BXW6 HRW6 ⊢
  generalize W5.heap.size + 1 = xab at BXW6 ⊢
  obtain ⟨r0, r1, r2, r3, r4, r5⟩ := BC3.out _ HB.out
  obtain ⟨s0, s1, s2, s3, s4, s5⟩ := BC4.out _ HB.out
  go_upto_region 9 with (fail)
  refine name_world fun W7 hW7 => ?_
  have hBW7 : Below W6.heap.size W6 W7 := by rw [hW7]; exact below_alloc (below_alloc (Below.refl _ _) _) _
  have hzW7 : (W6.alloc (.cells #[.int .i64 f.f0, .int .i64 f.f1, .int .i64 f.f2, .int .u32 f.f3, .string f.f4, .slice B5 f.f5.length d5, .int .i64 e.f0, .int .i64 e.f1, .int .i64 e.f2, .int .u32 e.f3, .string e.f4, .slice A5 e.f5.length c5] 25)).heap.size = W6.heap.size + 1 := by simp
  have hgW7 : W7.heap[W6.heap.size]? = some (.cells #[.int .i64 f.f0, .int .i64 f.f1, .int .i64 f.f2, .int .u32 f.f3, .string f.f4, .slice B5 f.f5.length d5, .int .i64 e.f0, .int .i64 e.f1, .int .i64 e.f2, .int .u32 e.f3, .string e.f4, .slice A5 e.f5.length c5] 25 (0, 0)) := by rw [hW7]; exact blk_alloc (World.alloc_heap_new _ _) _
  have hkW7 : W7.heap[W6.heap.size + 1]? = some (.cells #[.int .i64 6, .int .i64 2, .int .i64 0, .int .u32 0, .string ⟨#[]⟩, .slice (some ⟨W6.heap.size, 0, none⟩) 2 2] 25 (0, 0)) := by rw [hW7, ← hzW7]; exact World.alloc_heap_new _ _
  have BWW7 : Lx.Hd (Below W2.heap.size W2 W7) := Lx.Hd.mk (HB.out.trans (hBW7.mono HB.out.size))
  have hrW7 : kE.C W7 (some ⟨W6.heap.size, 0, none⟩) 2 [f, e] := row_two HR2.out.2.2.2.2 HR2.out.2.2.1.2 (RowsE.below HR2.out.2.2.2 BWW7.out).1 (RowsE.below HR2.out.2.2.1 BWW7.out).1 hgW7
  obtain ⟨sba, hsba⟩ : ∃ x, subE f e = x := ⟨_, rfl⟩
  have BXW7 : Lx.Hd (∀ W', Below W7.heap.size W7 W' → CellsE W' (W6.heap.size + 1) sba (some ⟨W6.heap.size, 0, none⟩) 2) := Lx.Hd.mk (by rw [← hsba]; exact cells_of (x := subE f e) hkW7)
  have HSba := Lx.Hd.mk hsba
  clear hsba
  have HRW7 := Lx.Hd.mk hrW7
  have HBW7' := Lx.Hd.mk (HB5.out.trans (hBW7.mono HB5.out.size))
  have CAB7 : Lx.Hd (kE.C W7 Aab 2 [e, f]) := Lx.Hd.mk (Kd.C_below HRW6.out hBW7)
  have BXAB7 : Lx.Hd (∀ W', Below W7.heap.size W7 W' → CellsE W' xab sab Aab 2) := Lx.Hd.mk fun W' hb => BXW6.out W' (hBW7.trans (hb.mono hBW7.size))
  clear hW7 hzW7 hgW7 hkW7 hrW7 hBW7 r0 r1 r2 r3 r4 r5 s0 s1 s2 s3 s4 s5 HB HB5
  have HB := BWW7
  have HB5 := HBW7'
  clear BWW7 HBW7'
  generalize some (⟨W6.heap.size, 0, none⟩ : Addr) = Aba at BXW7 HRW7 ⊢
  generalize W6.heap.size + 1 = xba at BXW7 ⊢
  obtain ⟨r0, r1, r2, r3, r4, r5⟩ := BC3.out _ HB.out
  obtain ⟨s0, s1, s2, s3, s4, s5⟩ := BC4.out _ HB.out
  go_upto_region 10 with (go_at_call 36; (with_reducible refine (KSE.out _ ?s1).mono ?_); (case s1 => exact HB.out); rintro r V ⟨rfl, hb⟩; have HV7 := Lx.Hd.mk hb; have hn_ := Lx.Hd.mk (below_step HB.out hb); clear hb HB; have HB := hn_; clear hn_)
  clear r0 r1 r2 r3 r4 r5 s0 s1 s2 s3 s4 s5
  have HBV : Lx.Hd (Below w.heap.size w V) := Lx.Hd.mk (HB5.out.trans (HV7.out.mono HB5.out.size))
  have CAB : kE.C V Aab 2 [e, f] := Kd.C_below CAB7.out HV7.out
  have CBA : kE.C V Aba 2 [f, e] := Kd.C_below HRW7.out HV7.out
  have CE : RowsE V e A5 c5 := RowsE.below HR2.out.2.2.1 HB.out
  have CF : RowsE V f B5 d5 := RowsE.below HR2.out.2.2.2 HB.out
  have BE : Lx.Hd (∀ W', Below V.heap.size V W' → CellsE W' x3 e A5 c5) := Lx.Hd.mk fun W' hb => BC3.out W' (HB.out.trans (hb.mono HB.out.size))
  have BF : Lx.Hd (∀ W', Below V.heap.size V W' → CellsE W' x4 f B5 d5) := Lx.Hd.mk fun W' hb => BC4.out W' (HB.out.trans (hb.mono HB.out.size))
  have BA : Lx.Hd (∀ W', Below V.heap.size V W' → CellsE W' xab sab Aab 2) := Lx.Hd.mk fun W' hb => BXAB7.out W' (HV7.out.trans (hb.mono HV7.out.size))
  have BB : Lx.Hd (∀ W', Below V.heap.size V W' → CellsE W' xba sba Aba 2) := Lx.Hd.mk fun W' hb => BXW7.out W' (HV7.out.trans (hb.mono HV7.out.size))
  have hs3 := HSZ.out.1
  have hs4 := HSZ.out.2
  obtain ⟨Ne, hNe⟩ : ∃ l, namesE e = l := ⟨_, rfl⟩
  obtain ⟨Nf, hNf⟩ : ∃ l, namesE f = l := ⟨_, rfl⟩
  obtain ⟨Na, hNa⟩ : ∃ l, namesE (subE e f) = l := ⟨_, rfl⟩
  have hNN : Na = [] ++ Ne ++ Nf := by rw [← hNa, names_sub, hNe, hNf]
  have ln1 : Ne.length ≤ 300 := by rw [← hNe]; have := namesE_len e; omega
  have ln2 : Nf.length ≤ 300 := by rw [← hNf]; have := namesE_len f; omega
  have hsame : se = true → Nf = Ne := fun h => by rw [← hNe, ← hNf, sameE_of (HSE.out.trans h)]
  have hlen3 : Na.length ≤ 700 := by rw [hNN]; simp only [List.nil_append, List.length_append]; omega
  have KAB : Lx.Hd (∀ W', Below V.heap.size V W' → Calls Tryd.prog 36 #[.agg #[.int .i64 sab.f0, .int .i64 sab.f1, .int .i64 sab.f2, .int .u32 sab.f3, .string sab.f4, .slice Aab sab.f5.length 2], .agg #[.int .i64 sba.f0, .int .i64 sba.f1, .int .i64 sba.f2, .int .u32 sba.f3, .string sba.f4, .slice Aba sba.f5.length 2]] W' fun r W'' => r = .returned (.bool se) ∧ Below W'.heap.size W' W'') := Lx.Hd.mk fun W' hb => by rw [← HSE.out, ← same_sub e f, ← HSab.out, ← HSba.out]; exact sameAt_any (deepE (subE e f)) (subE e f) (Nat.le_refl _) (subE f e) Aab 2 Aba 2 W' ⟨Kd.C_below CAB hb, Nat.le_refl _⟩ ⟨Kd.C_below CBA hb, Nat.le_refl _⟩
  have CNE : Lx.Hd (∀ W', Below V.heap.size V W' → Calls Tryd.prog 18 #[.agg #[.int .i64 e.f0, .int .i64 e.f1, .int .i64 e.f2, .int .u32 e.f3, .string e.f4, .slice A5 e.f5.length c5]] W' fun r W'' => ∃ v, r = .returned v ∧ Kd.string.R 9 W'' W'.heap.size (fun _ => True) v Ne ∧ Below W'.heap.size W' W'') := Lx.Hd.mk fun W' hb => by rw [← hNe]; exact names_calls e (by omega) A5 c5 W' CE.2 (Kd.C_below CE.1 hb)
  have CNF : Lx.Hd (∀ W', Below V.heap.size V W' → Calls Tryd.prog 18 #[.agg #[.int .i64 f.f0, .int .i64 f.f1, .int .i64 f.f2, .int .u32 f.f3, .string f.f4, .slice B5 f.f5.length d5]] W' fun r W'' => ∃ v, r = .returned v ∧ Kd.string.R 9 W'' W'.heap.size (fun _ => True) v Nf ∧ Below W'.heap.size W' W'') := Lx.Hd.mk fun W' hb => by rw [← hNf]; exact names_calls f (by omega) B5 d5 W' CF.2 (Kd.C_below CF.1 hb)
  have CNA : Lx.Hd (∀ W', Below V.heap.size V W' → Calls Tryd.prog 18 #[.agg #[.int .i64 sab.f0, .int .i64 sab.f1, .int .i64 sab.f2, .int .u32 sab.f3, .string sab.f4, .slice Aab sab.f5.length 2]] W' fun r W'' => ∃ v, r = .returned v ∧ Kd.string.R 9 W'' W'.heap.size (fun _ => True) v Na ∧ Below W'.heap.size W' W'') := Lx.Hd.mk fun W' hb => by rw [← hNa, ← HSab.out]; exact names_calls (subE e f) (by rw [size_sub]; omega) Aab 2 W' (Nat.le_refl _) (Kd.C_below CAB hb)
  have HNN := Lx.Hd.mk hNN
  have HSAME := Lx.Hd.mk hsame
  clear CAB CBA CE CF hNe hNf hNa hNN hsame hs3 hs4 HSZ HSE KSE HB HB0 HV7 HB5 BC3 BC4 BXAB7 BXW7 BXW6 CAB7 HRW6 HRW7 HR2 HG2
  have HB : Lx.Hd (Below V.heap.size V V) := Lx.Hd.mk (Below.refl _ _)
  cases se
  · skip
    have HBd := Lx.Hd.mk (below_drew HB.out)
    refine start_ (n := 29) (S := fun w' => CellsE w' xab sab Aab 2 ∧ CellsE w' xba sba Aba 2 ∧ CellsE w' x3 e A5 c5 ∧ CellsE w' x4 f B5 d5) (ds := []) (fl 29 0) (by kernel_rfl) rfl rfl ⟨BA.out _ HBd.out, BB.out _ HBd.out, BE.out _ HBd.out, BF.out _ HBd.out⟩ (fun hHeld => ?_)
    clear HB
    have HB := HBd
    clear HBd
    refine pure_ (i := 3) (N := some 80) (v := ?_) (a' := ?_) (fl 29 8) rfl rfl (by kernel_rfl) (fun _ _ _ h => h) (Or.inl ⟨by rfl, ?_⟩) ?_ ?_
    rotate_left; · (intro w'; go_simp; with_reducible rfl)
    rotate_left; · (simp only [Act.put, List.setIfInBounds_toArray, List.set_cons_zero, List.set_cons_succ, i64_w, i32_w]; rfl)
    refine take_ (i := 0) (N := some 77) (v := ?_) (a' := ?_) (fl 29 9) rfl rfl (by kernel_rfl) (fun _ _ _ h => h) (Or.inl ⟨by rfl, ?_⟩) hHeld ?_ ?_
    rotate_left; · (rintro w' ⟨⟨s0, s1, s2, s3, s4, s5⟩, ⟨s6, s7, s8, s9, s10, s11⟩, ⟨s12, s13, s14, s15, s16, s17⟩, ⟨s18, s19, s20, s21, s22, s23⟩⟩; go_simp; with_reducible rfl)
    rotate_left; · (simp only [Act.put, List.setIfInBounds_toArray, List.set_cons_zero, List.set_cons_succ, i64_w, i32_w]; rfl)
    refine take_ (i := 1) (N := some 78) (v := ?_) (a' := ?_) (fl 29 11) rfl rfl (by kernel_rfl) (fun _ _ _ h => h) (Or.inl ⟨by rfl, ?_⟩) hHeld ?_ ?_
    rotate_left; · (rintro w' ⟨⟨s0, s1, s2, s3, s4, s5⟩, ⟨s6, s7, s8, s9, s10, s11⟩, ⟨s12, s13, s14, s15, s16, s17⟩, ⟨s18, s19, s20, s21, s22, s23⟩⟩; go_simp; with_reducible rfl)
    rotate_left; · (simp only [Act.put, List.setIfInBounds_toArray, List.set_cons_zero, List.set_cons_succ, i64_w, i32_w]; rfl)
    refine one_ (i := 2) (N := some 79) (fl 29 15) rfl rfl (by kernel_rfl) (by decide) (fun K hK => ?_)
    refine goes_ Tryd.func36 (by kernel_rfl) rfl #[.agg #[.int .i64 sab.f0, .int .i64 sab.f1, .int .i64 sab.f2, .int .u32 sab.f3, .string sab.f4, .slice Aab sab.f5.length 2], .agg #[.int .i64 sba.f0, .int .i64 sba.f1, .int .i64 sba.f2, .int .u32 sba.f3, .string sba.f4, .slice Aba sba.f5.length 2]] (by rfl) rfl rfl (by (try simp only [List.map_toArray, List.map_cons, List.map_nil]); first | done | rfl) ?_
    with_reducible refine (KAB.out _ ?s1).mono ?_
    (case s1 => exact HB.out)
    rintro r W2c ⟨rfl, hb⟩
    refine ⟨_, rfl, ?_⟩
    have hn_ := Lx.Hd.mk (below_step HB.out hb)
    clear hb HB
    have HB := hn_
    clear hn_
    refine hK.out _ _ ⟨BA.out _ HB.out, BB.out _ HB.out, BE.out _ HB.out, BF.out _ HB.out⟩ (fun hHeld => ?_)
    clear hK K
    refine norm_ (a' := ?_) ?_ ?_
    rotate_left; · (show Act.put _ (some 79) _ = _; simp only [Act.put, List.setIfInBounds_toArray, List.set_cons_zero, List.set_cons_succ, i64_w, i32_w]; rfl)
    refine pure_ (i := 4) (N := some 81) (v := ?_) (a' := ?_) (fl 29 31) rfl rfl (by kernel_rfl) (fun _ _ _ h => h) (Or.inl ⟨by rfl, ?_⟩) ?_ ?_
    rotate_left; · (intro w'; go_simp; with_reducible rfl)
    rotate_left; · (simp only [Act.put, List.setIfInBounds_toArray, List.set_cons_zero, List.set_cons_succ, i64_w, i32_w]; rfl)
    refine pure_ (i := 5) (N := some 82) (v := ?_) (a' := ?_) (fl 29 63) rfl rfl (by kernel_rfl) (fun _ _ _ h => h) (Or.inl ⟨by rfl, ?_⟩) ?_ ?_
    rotate_left; · (intro w'; go_simp; with_reducible rfl)
    rotate_left; · (simp only [Act.put, List.setIfInBounds_toArray, List.set_cons_zero, List.set_cons_succ, i64_w, i32_w]; rfl)
    refine pure_ (i := 6) (N := some 83) (v := ?_) (a' := ?_) (fl 29 127) rfl rfl (by kernel_rfl) (fun _ _ _ h => h) (Or.inl ⟨by rfl, ?_⟩) ?_ ?_
    rotate_left; · (intro w'; go_simp; with_reducible rfl)
    rotate_left; · (simp only [Act.put, List.setIfInBounds_toArray, List.set_cons_zero, List.set_cons_succ, i64_w, i32_w]; rfl)
    refine pure_ (i := 7) (N := some 84) (v := ?_) (a' := ?_) (fl 29 255) rfl rfl (by kernel_rfl) (fun _ _ _ h => h) (Or.inl ⟨by rfl, ?_⟩) ?_ ?_
    rotate_left; · (intro w'; go_simp; with_reducible rfl)
    rotate_left; · (simp only [Act.put, List.setIfInBounds_toArray, List.set_cons_zero, List.set_cons_succ, i64_w, i32_w]; rfl)
    refine pure_ (i := 8) (N := some 85) (v := ?_) (a' := ?_) (fl 29 511) rfl rfl (by kernel_rfl) (fun _ _ _ h => h) (Or.inl ⟨by rfl, ?_⟩) ?_ ?_
    rotate_left; · (intro w'; go_simp; with_reducible rfl)
    rotate_left; · (simp only [Act.put, List.setIfInBounds_toArray, List.set_cons_zero, List.set_cons_succ, i64_w, i32_w]; rfl)
    refine pure_ (i := 9) (N := some 86) (v := undef) (a' := ?_) (fl 29 1023) rfl rfl (by kernel_rfl) (fun _ _ _ h => h) (Or.inr ⟨by rfl, rfl⟩) ?_ ?_
    rotate_left; · (simp only [Act.put, List.setIfInBounds_toArray, List.set_cons_zero, List.set_cons_succ, i64_w, i32_w]; rfl)
    refine pure_ (i := 10) (N := some 87) (v := undef) (a' := ?_) (fl 29 2047) rfl rfl (by kernel_rfl) (fun _ _ _ h => h) (Or.inr ⟨by rfl, rfl⟩) ?_ ?_
    rotate_left; · (simp only [Act.put, List.setIfInBounds_toArray, List.set_cons_zero, List.set_cons_succ, i64_w, i32_w]; rfl)
    refine pure_ (i := 11) (N := some 88) (v := undef) (a' := ?_) (fl 29 4095) rfl rfl (by kernel_rfl) (fun _ _ _ h => h) (Or.inr ⟨by rfl, rfl⟩) ?_ ?_
    rotate_left; · (simp only [Act.put, List.setIfInBounds_toArray, List.set_cons_zero, List.set_cons_succ, i64_w, i32_w]; rfl)
    refine pure_ (i := 12) (N := some 89) (v := undef) (a' := ?_) (fl 29 8191) rfl rfl (by kernel_rfl) (fun _ _ _ h => h) (Or.inr ⟨by rfl, rfl⟩) ?_ ?_
    rotate_left; · (simp only [Act.put, List.setIfInBounds_toArray, List.set_cons_zero, List.set_cons_succ, i64_w, i32_w]; rfl)
    refine pure_ (i := 13) (N := some 90) (v := undef) (a' := ?_) (fl 29 16383) rfl rfl (by kernel_rfl) (fun _ _ _ h => h) (Or.inr ⟨by rfl, rfl⟩) ?_ ?_
    rotate_left; · (simp only [Act.put, List.setIfInBounds_toArray, List.set_cons_zero, List.set_cons_succ, i64_w, i32_w]; rfl)
    refine pure_ (i := 14) (N := some 91) (v := ?_) (a' := ?_) (fl 29 32767) rfl rfl (by kernel_rfl) (fun _ _ _ h => h) (Or.inl ⟨by rfl, ?_⟩) ?_ ?_
    rotate_left; · (intro w'; go_simp; with_reducible rfl)
    rotate_left; · (simp only [Act.put, List.setIfInBounds_toArray, List.set_cons_zero, List.set_cons_succ, i64_w, i32_w]; rfl)
    refine pure_ (i := 15) (N := some 92) (v := ?_) (a' := ?_) (fl 29 65535) rfl rfl (by kernel_rfl) (fun _ _ _ h => h) (Or.inl ⟨by rfl, ?_⟩) ?_ ?_
    rotate_left; · (intro w'; go_simp; with_reducible rfl)
    rotate_left; · (simp only [Act.put, List.setIfInBounds_toArray, List.set_cons_zero, List.set_cons_succ, i64_w, i32_w]; rfl)
    refine pure_ (i := 16) (N := some 93) (v := ?_) (a' := ?_) (fl 29 131071) rfl rfl (by kernel_rfl) (fun _ _ _ h => h) (Or.inl ⟨by rfl, ?_⟩) ?_ ?_
    rotate_left; · (intro w'; go_simp; with_reducible rfl)
    rotate_left; · (simp only [Act.put, List.setIfInBounds_toArray, List.set_cons_zero, List.set_cons_succ, i64_w, i32_w]; rfl)
    refine take_ (i := 17) (N := some 94) (v := ?_) (a' := ?_) (fl 29 262143) rfl rfl (by kernel_rfl) (fun _ _ _ h => h) (Or.inl ⟨by rfl, ?_⟩) hHeld ?_ ?_
    rotate_left; · (rintro w' ⟨⟨s0, s1, s2, s3, s4, s5⟩, ⟨s6, s7, s8, s9, s10, s11⟩, ⟨s12, s13, s14, s15, s16, s17⟩, ⟨s18, s19, s20, s21, s22, s23⟩⟩; go_simp; with_reducible rfl)
    rotate_left; · (simp only [Act.put, List.setIfInBounds_toArray, List.set_cons_zero, List.set_cons_succ, i64_w, i32_w]; rfl)
    refine take_ (i := 20) (N := some 97) (v := ?_) (a' := ?_) (fl 29 1310719) rfl rfl (by kernel_rfl) (fun _ _ _ h => h) (Or.inl ⟨by rfl, ?_⟩) hHeld ?_ ?_
    rotate_left; · (rintro w' ⟨⟨s0, s1, s2, s3, s4, s5⟩, ⟨s6, s7, s8, s9, s10, s11⟩, ⟨s12, s13, s14, s15, s16, s17⟩, ⟨s18, s19, s20, s21, s22, s23⟩⟩; go_simp; with_reducible rfl)
    rotate_left; · (simp only [Act.put, List.setIfInBounds_toArray, List.set_cons_zero, List.set_cons_succ, i64_w, i32_w]; rfl)
    refine take_ (i := 23) (N := some 100) (v := ?_) (a' := ?_) (fl 29 9699327) rfl rfl (by kernel_rfl) (fun _ _ _ h => h) (Or.inl ⟨by rfl, ?_⟩) hHeld ?_ ?_
    rotate_left; · (rintro w' ⟨⟨s0, s1, s2, s3, s4, s5⟩, ⟨s6, s7, s8, s9, s10, s11⟩, ⟨s12, s13, s14, s15, s16, s17⟩, ⟨s18, s19, s20, s21, s22, s23⟩⟩; go_simp; with_reducible rfl)
    rotate_left; · (simp only [Act.put, List.setIfInBounds_toArray, List.set_cons_zero, List.set_cons_succ, i64_w, i32_w]; rfl)
    refine join_ (σ := Option Addr × Nat × Nat × Option Addr × Nat) 6 (fl 29 12582911) (fun s => [(95, .slice s.1 Na.length s.2.1), (96, .slice (some ⟨s.2.2.1, 0, none⟩) 0 0), (98, .slice s.2.2.2.1 Ne.length s.2.2.2.2)]) (fun s w' => Below V.heap.size V w' ∧ (∃ b5, Kd.string.R 9 w' b5 (fun k => True ∧ some k ≠ (.slice (some ⟨s.2.2.1, 0, none⟩) 0 0 : Value).ownBlock) (.slice s.1 Na.length s.2.1) Na) ∧ Kd.string.R 9 w' V.heap.size (fun _ => True) (.slice (some ⟨s.2.2.1, 0, none⟩) 0 0) ([] : List ByteArray) ∧ Ne.length ≤ s.2.2.2.2 ∧ Kd.string.C w' s.2.2.2.1 Ne.length Ne) ?_ ?_
    rotate_left
    · intro hCont
      refine two_ (i := 18) (j := 19) (Ni := some 95) (Nj := some 96) (fl 29 9961471) (fl 29 10223615) rfl rfl rfl rfl (by kernel_rfl) (by decide) (by decide) (fun K hK => ?_) (fun K hK => ?_)
      · skip
        refine goes_ Tryd.func18 (by kernel_rfl) rfl #[.agg #[.int .i64 sab.f0, .int .i64 sab.f1, .int .i64 sab.f2, .int .u32 sab.f3, .string sab.f4, .slice Aab sab.f5.length 2]] (by rfl) rfl rfl (by (try simp only [List.map_toArray, List.map_cons, List.map_nil]); first | done | rfl) ?_
        with_reducible refine (CNA.out _ ?s1).mono ?_
        (case s1 => exact HB.out)
        rintro r W18 ⟨v5, rfl, ho5, hb⟩
        refine ⟨_, rfl, ?_⟩
        obtain ⟨A5', c5', rfl⟩ := Kd.R_slice ho5
        have HO5 : Lx.Hd (∃ b5, Kd.string.R 9 W18 b5 (fun k => k < W18.heap.size) (.slice A5' Na.length c5') Na) := Lx.Hd.mk ⟨_, Kd.R_mono (Kd.R_bound ho5) (fun k hk => hk.2.2.1)⟩
        clear ho5
        have hn_ := Lx.Hd.mk (below_step HB.out hb)
        clear hb HB
        have HB := hn_
        clear hn_
        refine hK.out _ _ ⟨BA.out _ HB.out, BB.out _ HB.out, BE.out _ HB.out, BF.out _ HB.out⟩ (fun hHeld => ?_)
        clear hK K
        refine norm_ (a' := ?_) ?_ ?_
        rotate_left; · (show Act.put _ (some 95) _ = _; simp only [Act.put, List.setIfInBounds_toArray, List.set_cons_zero, List.set_cons_succ, i64_w, i32_w]; rfl)
        refine two_ (i := 19) (j := 21) (Ni := some 96) (Nj := some 98) (fl 29 10485759) (fl 29 12058623) rfl rfl rfl rfl (by kernel_rfl) (by decide) (by decide) (fun K hK => ?_) (fun K hK => ?_)
        · skip
          have hb : Below W18.heap.size W18 (W18.alloc (.cells #[] 9)) := below_alloc (Below.refl _ _) _
          refine value_ (w1 := (W18.alloc (.cells #[] 9))) (v := .slice (some ⟨W18.heap.size, 0, none⟩) 0 0) (by rfl) rfl ?_ ?_
          · go_simp
            try rfl
          have HOL : Lx.Hd (Kd.string.R 9 (W18.alloc (.cells #[] 9)) V.heap.size (fun _ => True) (.slice (some ⟨W18.heap.size, 0, none⟩) 0 0) ([] : List ByteArray)) := Lx.Hd.mk (R_litW HB.out.size [] (by simp))
          have HO5n : Lx.Hd (∃ b5, Kd.string.R 9 (W18.alloc (.cells #[] 9)) b5 (fun k => True ∧ some k ≠ (.slice (some ⟨W18.heap.size, 0, none⟩) 0 0 : Value).ownBlock) (.slice A5' Na.length c5') Na) := Lx.Hd.mk (ex_imp HO5.out fun b5 h => Kd.R_alloc (Kd.R_mono h (fun k hk => ⟨trivial, fun h => own_ne h (by omega)⟩)) _)
          clear HO5
          have HO5 := HO5n
          clear HO5n
          have hn_ := Lx.Hd.mk (below_step HB.out hb)
          clear hb HB
          have HB := hn_
          clear hn_
          refine hK.out _ _ ⟨BA.out _ HB.out, BB.out _ HB.out, BE.out _ HB.out, BF.out _ HB.out⟩ (fun hHeld => ?_)
          clear hK K
          refine norm_ (a' := ?_) ?_ ?_
          rotate_left; · (show Act.put _ (some 96) _ = _; simp only [Act.put, List.setIfInBounds_toArray, List.set_cons_zero, List.set_cons_succ, i64_w, i32_w]; rfl)
          refine one_ (i := 21) (N := some 98) (fl 29 12582911) rfl rfl (by kernel_rfl) (by decide) (fun K hK => ?_)
          refine goes_ Tryd.func18 (by kernel_rfl) rfl #[.agg #[.int .i64 e.f0, .int .i64 e.f1, .int .i64 e.f2, .int .u32 e.f3, .string e.f4, .slice A5 e.f5.length c5]] (by rfl) rfl rfl (by (try simp only [List.map_toArray, List.map_cons, List.map_nil]); first | done | rfl) ?_
          with_reducible refine (CNE.out _ ?s1).mono ?_
          (case s1 => exact HB.out)
          rintro r W21 ⟨v7, rfl, ho7, hb⟩
          refine ⟨_, rfl, ?_⟩
          obtain ⟨A7', c7', rfl⟩ := Kd.R_slice ho7
          have HC7 := Lx.Hd.mk (Kd.R_reads' ho7).2
          clear ho7
          have hq_ := Lx.Hd.mk (ex_imp HO5.out (fun b5 h => Kd.R_below h hb))
          clear HO5
          have HO5 := hq_
          clear hq_
          have hq_ := Lx.Hd.mk (Kd.R_below HOL.out hb)
          clear HOL
          have HOL := hq_
          clear hq_
          have hn_ := Lx.Hd.mk (below_step HB.out hb)
          clear hb HB
          have HB := hn_
          clear hn_
          refine hK.out _ _ ⟨BA.out _ HB.out, BB.out _ HB.out, BE.out _ HB.out, BF.out _ HB.out⟩ (fun hHeld => ?_)
          clear hK K
          refine norm_ (a' := ?_) ?_ ?_
          rotate_left; · (show Act.put _ (some 98) _ = _; simp only [Act.put, List.setIfInBounds_toArray, List.set_cons_zero, List.set_cons_succ, i64_w, i32_w]; rfl)
          exact norm_ (by simp only [putAll, Act.put, List.setIfInBounds_toArray, List.set_cons_zero, List.set_cons_succ]) (hCont (A5', c5', W18.heap.size, A7', c7') _ ⟨HB.out, HO5.out, HOL.out, HC7.out.1, HC7.out.2⟩)
        · skip
          refine goes_ Tryd.func18 (by kernel_rfl) rfl #[.agg #[.int .i64 e.f0, .int .i64 e.f1, .int .i64 e.f2, .int .u32 e.f3, .string e.f4, .slice A5 e.f5.length c5]] (by rfl) rfl rfl (by (try simp only [List.map_toArray, List.map_cons, List.map_nil]); first | done | rfl) ?_
          with_reducible refine (CNE.out _ ?s1).mono ?_
          (case s1 => exact HB.out)
          rintro r W21 ⟨v7, rfl, ho7, hb⟩
          refine ⟨_, rfl, ?_⟩
          obtain ⟨A7', c7', rfl⟩ := Kd.R_slice ho7
          have HC7 := Lx.Hd.mk (Kd.R_reads' ho7).2
          clear ho7
          have hq_ := Lx.Hd.mk (ex_imp HO5.out (fun b5 h => Kd.R_below h hb))
          clear HO5
          have HO5 := hq_
          clear hq_
          have HZ21 := Lx.Hd.mk hb.size
          have hn_ := Lx.Hd.mk (below_step HB.out hb)
          clear hb HB
          have HB := hn_
          clear hn_
          refine hK.out _ _ ⟨BA.out _ HB.out, BB.out _ HB.out, BE.out _ HB.out, BF.out _ HB.out⟩ (fun hHeld => ?_)
          clear hK K
          refine norm_ (a' := ?_) ?_ ?_
          rotate_left; · (show Act.put _ (some 98) _ = _; simp only [Act.put, List.setIfInBounds_toArray, List.set_cons_zero, List.set_cons_succ, i64_w, i32_w]; rfl)
          refine one_ (i := 19) (N := some 96) (fl 29 12582911) rfl rfl (by kernel_rfl) (by decide) (fun K hK => ?_)
          have hb : Below W21.heap.size W21 (W21.alloc (.cells #[] 9)) := below_alloc (Below.refl _ _) _
          refine value_ (w1 := (W21.alloc (.cells #[] 9))) (v := .slice (some ⟨W21.heap.size, 0, none⟩) 0 0) (by rfl) rfl ?_ ?_
          · go_simp
            try rfl
          have HOL : Lx.Hd (Kd.string.R 9 (W21.alloc (.cells #[] 9)) V.heap.size (fun _ => True) (.slice (some ⟨W21.heap.size, 0, none⟩) 0 0) ([] : List ByteArray)) := Lx.Hd.mk (R_litW HB.out.size [] (by simp))
          have HO5n : Lx.Hd (∃ b5, Kd.string.R 9 (W21.alloc (.cells #[] 9)) b5 (fun k => True ∧ some k ≠ (.slice (some ⟨W21.heap.size, 0, none⟩) 0 0 : Value).ownBlock) (.slice A5' Na.length c5') Na) := Lx.Hd.mk (ex_imp HO5.out fun b5 h => Kd.R_alloc (Kd.R_mono h (fun k hk => ⟨trivial, fun h => own_ne h (by have := HZ21.out; omega)⟩)) _)
          clear HO5
          have HO5 := HO5n
          clear HO5n
          have HC7n := Lx.Hd.mk (And.intro HC7.out.1 (Kd.C_alloc HC7.out.2 (.cells #[] 9)))
          clear HC7
          have HC7 := HC7n
          clear HC7n
          have hn_ := Lx.Hd.mk (below_step HB.out hb)
          clear hb HB
          have HB := hn_
          clear hn_
          refine hK.out _ _ ⟨BA.out _ HB.out, BB.out _ HB.out, BE.out _ HB.out, BF.out _ HB.out⟩ (fun hHeld => ?_)
          clear hK K
          refine norm_ (a' := ?_) ?_ ?_
          rotate_left; · (show Act.put _ (some 96) _ = _; simp only [Act.put, List.setIfInBounds_toArray, List.set_cons_zero, List.set_cons_succ, i64_w, i32_w]; rfl)
          exact norm_ (by simp only [putAll, Act.put, List.setIfInBounds_toArray, List.set_cons_zero, List.set_cons_succ]) (hCont (A5', c5', W21.heap.size, A7', c7') _ ⟨HB.out, HO5.out, HOL.out, HC7.out.1, HC7.out.2⟩)
      · skip
        have hb : Below W2c.heap.size W2c (W2c.alloc (.cells #[] 9)) := below_alloc (Below.refl _ _) _
        refine value_ (w1 := (W2c.alloc (.cells #[] 9))) (v := .slice (some ⟨W2c.heap.size, 0, none⟩) 0 0) (by rfl) rfl ?_ ?_
        · go_simp
          try rfl
        have HOL : Lx.Hd (Kd.string.R 9 (W2c.alloc (.cells #[] 9)) V.heap.size (fun _ => True) (.slice (some ⟨W2c.heap.size, 0, none⟩) 0 0) ([] : List ByteArray)) := Lx.Hd.mk (R_litW HB.out.size [] (by simp))
        have hn_ := Lx.Hd.mk (below_step HB.out hb)
        clear hb HB
        have HB := hn_
        clear hn_
        refine hK.out _ _ ⟨BA.out _ HB.out, BB.out _ HB.out, BE.out _ HB.out, BF.out _ HB.out⟩ (fun hHeld => ?_)
        clear hK K
        refine norm_ (a' := ?_) ?_ ?_
        rotate_left; · (show Act.put _ (some 96) _ = _; simp only [Act.put, List.setIfInBounds_toArray, List.set_cons_zero, List.set_cons_succ, i64_w, i32_w]; rfl)
        refine one_ (i := 18) (N := some 95) (fl 29 10485759) rfl rfl (by kernel_rfl) (by decide) (fun K hK => ?_)
        refine goes_ Tryd.func18 (by kernel_rfl) rfl #[.agg #[.int .i64 sab.f0, .int .i64 sab.f1, .int .i64 sab.f2, .int .u32 sab.f3, .string sab.f4, .slice Aab sab.f5.length 2]] (by rfl) rfl rfl (by (try simp only [List.map_toArray, List.map_cons, List.map_nil]); first | done | rfl) ?_
        with_reducible refine (CNA.out _ ?s1).mono ?_
        (case s1 => exact HB.out)
        rintro r W18 ⟨v5, rfl, ho5, hb⟩
        refine ⟨_, rfl, ?_⟩
        obtain ⟨A5', c5', rfl⟩ := Kd.R_slice ho5
        have HO5 : Lx.Hd (∃ b5, Kd.string.R 9 W18 b5 (fun k => True ∧ some k ≠ (.slice (some ⟨W2c.heap.size, 0, none⟩) 0 0 : Value).ownBlock) (.slice A5' Na.length c5') Na) := Lx.Hd.mk ⟨_, Kd.R_mono (Kd.R_bound ho5) (fun k hk => ⟨trivial, fun h => own_ne h (by have := hk.2.1; simp at this; omega)⟩)⟩
        clear ho5
        have hq_ := Lx.Hd.mk (Kd.R_below HOL.out hb)
        clear HOL
        have HOL := hq_
        clear hq_
        have hn_ := Lx.Hd.mk (below_step HB.out hb)
        clear hb HB
        have HB := hn_
        clear hn_
        refine hK.out _ _ ⟨BA.out _ HB.out, BB.out _ HB.out, BE.out _ HB.out, BF.out _ HB.out⟩ (fun hHeld => ?_)
        clear hK K
        refine norm_ (a' := ?_) ?_ ?_
        rotate_left; · (show Act.put _ (some 95) _ = _; simp only [Act.put, List.setIfInBounds_toArray, List.set_cons_zero, List.set_cons_succ, i64_w, i32_w]; rfl)
        refine one_ (i := 21) (N := some 98) (fl 29 12582911) rfl rfl (by kernel_rfl) (by decide) (fun K hK => ?_)
        refine goes_ Tryd.func18 (by kernel_rfl) rfl #[.agg #[.int .i64 e.f0, .int .i64 e.f1, .int .i64 e.f2, .int .u32 e.f3, .string e.f4, .slice A5 e.f5.length c5]] (by rfl) rfl rfl (by (try simp only [List.map_toArray, List.map_cons, List.map_nil]); first | done | rfl) ?_
        with_reducible refine (CNE.out _ ?s1).mono ?_
        (case s1 => exact HB.out)
        rintro r W21 ⟨v7, rfl, ho7, hb⟩
        refine ⟨_, rfl, ?_⟩
        obtain ⟨A7', c7', rfl⟩ := Kd.R_slice ho7
        have HC7 := Lx.Hd.mk (Kd.R_reads' ho7).2
        clear ho7
        have hq_ := Lx.Hd.mk (ex_imp HO5.out (fun b5 h => Kd.R_below h hb))
        clear HO5
        have HO5 := hq_
        clear hq_
        have hq_ := Lx.Hd.mk (Kd.R_below HOL.out hb)
        clear HOL
        have HOL := hq_
        clear hq_
        have hn_ := Lx.Hd.mk (below_step HB.out hb)
        clear hb HB
        have HB := hn_
        clear hn_
        refine hK.out _ _ ⟨BA.out _ HB.out, BB.out _ HB.out, BE.out _ HB.out, BF.out _ HB.out⟩ (fun hHeld => ?_)
        clear hK K
        refine norm_ (a' := ?_) ?_ ?_
        rotate_left; · (show Act.put _ (some 98) _ = _; simp only [Act.put, List.setIfInBounds_toArray, List.set_cons_zero, List.set_cons_succ, i64_w, i32_w]; rfl)
        exact norm_ (by simp only [putAll, Act.put, List.setIfInBounds_toArray, List.set_cons_zero, List.set_cons_succ]) (hCont (A5', c5', W2c.heap.size, A7', c7') _ ⟨HB.out, HO5.out, HOL.out, HC7.out.1, HC7.out.2⟩)
    clear HB hHeld
    rintro ⟨A5', c5', g, A7', c7'⟩ W22 ⟨hB_, h5_, hL_, l7_, h7_⟩
    have HB := Lx.Hd.mk hB_
    have HO5 := Lx.Hd.mk h5_
    have HOL := Lx.Hd.mk hL_
    have HC7 := Lx.Hd.mk (And.intro l7_ h7_)
    clear hB_ h5_ hL_ l7_ h7_
    have hHeld : CellsE W22 xab sab Aab 2 ∧ CellsE W22 xba sba Aba 2 ∧ CellsE W22 x3 e A5 c5 ∧ CellsE W22 x4 f B5 d5 := ⟨BA.out _ HB.out, BB.out _ HB.out, BE.out _ HB.out, BF.out _ HB.out⟩
    refine norm_ (a' := ?_) ?_ ?_
    rotate_left; · (simp only [putAll, Act.put, List.setIfInBounds_toArray, List.set_cons_zero, List.set_cons_succ]; rfl)
    refine one_ (i := 22) (N := some 99) (fl 29 16777215) rfl rfl (by kernel_rfl) (by decide) (fun K hK => ?_)
    refine Kd.R_append_rows_step Kd.string (w0 := V) V.heap.size (by rfl) (.tmp 96) (.tmp 98) 30 9 (.string ⟨#[]⟩) 16 (by rfl) Tryd.underlying30 info9 rfl (by decide) (by omega) (.slice (some ⟨g, 0, none⟩) 0 0) ([] : List ByteArray) (Ne) _ _ _ (fun _ => True) (fun _ => False) (by rfl) (by rfl) HOL.out HC7.out.2 (fun _ _ h => h) (fun _ h => h.elim) (fun _ _ => trivial) HB.out HB.out.size (by simp only [List.length_nil]; omega) ?_
    intro v8 W23 ho8 hb8 hg8 hat8
    have hq_ := Lx.Hd.mk (ex_imp HO5.out (fun b5 h => Kd.R_after h hg8 hat8))
    clear HO5
    have HO5 := hq_
    clear hq_ HB
    have HB := Lx.Hd.mk hb8
    have HO8 := Lx.Hd.mk ho8
    clear ho8 hb8 hg8 hat8 HOL HC7
    refine hK.out _ _ ⟨BA.out _ HB.out, BB.out _ HB.out, BE.out _ HB.out, BF.out _ HB.out⟩ (fun hHeld => ?_)
    clear hK K
    refine norm_ (a' := ?_) ?_ ?_
    rotate_left; · (show Act.put _ (some 99) _ = _; simp only [Act.put, List.setIfInBounds_toArray, List.set_cons_zero, List.set_cons_succ, i64_w, i32_w]; rfl)
    refine one_ (i := 24) (N := some 101) (fl 29 33554431) rfl rfl (by kernel_rfl) (by decide) (fun K hK => ?_)
    refine goes_ Tryd.func18 (by kernel_rfl) rfl #[.agg #[.int .i64 f.f0, .int .i64 f.f1, .int .i64 f.f2, .int .u32 f.f3, .string f.f4, .slice B5 f.f5.length d5]] (by rfl) rfl rfl (by (try simp only [List.map_toArray, List.map_cons, List.map_nil]); first | done | rfl) ?_
    with_reducible refine (CNF.out _ ?s1).mono ?_
    (case s1 => exact HB.out)
    rintro r W24 ⟨v9, rfl, ho9, hb⟩
    refine ⟨_, rfl, ?_⟩
    obtain ⟨A9', c9', rfl⟩ := Kd.R_slice ho9
    have HC9 := Lx.Hd.mk (Kd.R_reads' ho9).2
    clear ho9
    have hq_ := Lx.Hd.mk (ex_imp HO5.out (fun b5 h => Kd.R_below h hb))
    clear HO5
    have HO5 := hq_
    clear hq_
    have hq_ := Lx.Hd.mk (Kd.R_below HO8.out hb)
    clear HO8
    have HO8 := hq_
    clear hq_
    have hn_ := Lx.Hd.mk (below_step HB.out hb)
    clear hb HB
    have HB := hn_
    clear hn_
    refine hK.out _ _ ⟨BA.out _ HB.out, BB.out _ HB.out, BE.out _ HB.out, BF.out _ HB.out⟩ (fun hHeld => ?_)
    clear hK K
    refine norm_ (a' := ?_) ?_ ?_
    rotate_left; · (show Act.put _ (some 101) _ = _; simp only [Act.put, List.setIfInBounds_toArray, List.set_cons_zero, List.set_cons_succ, i64_w, i32_w]; rfl)
    refine one_ (i := 25) (N := some 102) (fl 29 67108863) rfl rfl (by kernel_rfl) (by decide) (fun K hK => ?_)
    refine Kd.R_append_rows_step Kd.string (w0 := V) V.heap.size (by rfl) (.tmp 99) (.tmp 101) 30 9 (.string ⟨#[]⟩) 16 (by rfl) Tryd.underlying30 info9 rfl (by decide) (by omega) (v8) ([] ++ Ne) (Nf) _ _ _ (fun _ => True) (fun _ => False) (by rfl) (by rfl) HO8.out HC9.out.2 (fun _ _ h => h) (fun _ h => h.elim) (fun _ _ => trivial) HB.out HB.out.size (by simp only [List.nil_append]; omega) ?_
    intro v10 W25 ho10 hb10 hg10 hat10
    have hq_ := Lx.Hd.mk (ex_imp HO5.out (fun b5 h => Kd.R_after h hg10 hat10))
    clear HO5
    have HO5 := hq_
    clear hq_ HB
    have HB := Lx.Hd.mk hb10
    rw [← HNN.out] at ho10
    obtain ⟨A10, c10, rfl⟩ := Kd.R_slice ho10
    have HO10 := Lx.Hd.mk ho10
    clear ho10 hb10 hg10 hat10 HO8 HC9
    refine hK.out _ _ ⟨BA.out _ HB.out, BB.out _ HB.out, BE.out _ HB.out, BF.out _ HB.out⟩ (fun hHeld => ?_)
    clear hK K
    refine norm_ (a' := ?_) ?_ ?_
    rotate_left; · (show Act.put _ (some 102) _ = _; simp only [Act.put, List.setIfInBounds_toArray, List.set_cons_zero, List.set_cons_succ, i64_w, i32_w]; rfl)
    refine one_ (i := 26) (N := some 103) (fl 29 134217727) rfl rfl (by kernel_rfl) (by decide) (fun K hK => ?_)
    obtain ⟨b5, h5_⟩ := HO5.out
    refine goes_ Tryd.func21 (by kernel_rfl) rfl #[.slice A5' Na.length c5', .slice A10 Na.length c10] (by rfl) rfl rfl (by (try simp only [List.map_toArray, List.map_cons, List.map_nil]); first | done | rfl) ?_
    with_reducible refine (texts_calls Na ?s1 A5' A10 c5' c10 _ ?s2 ?s3 ?s4 ?s5).mono ?_
    (case s1 => exact by omega)
    (case s2 => exact (Kd.R_reads' h5_).2.1)
    (case s3 => exact (Kd.R_reads' HO10.out).2.1)
    (case s4 => exact (Kd.R_reads' h5_).2.2)
    (case s5 => exact (Kd.R_reads' HO10.out).2.2)
    rintro r W26 ⟨rfl, hb⟩
    refine ⟨_, rfl, ?_⟩
    have hn_ := Lx.Hd.mk (below_step HB.out hb)
    clear hb HB
    have HB := hn_
    clear hn_
    refine hK.out _ _ ⟨BA.out _ HB.out, BB.out _ HB.out, BE.out _ HB.out, BF.out _ HB.out⟩ (fun hHeld => ?_)
    clear hK K
    refine norm_ (a' := ?_) ?_ ?_
    rotate_left; · (show Act.put _ (some 103) _ = _; simp only [Act.put, List.setIfInBounds_toArray, List.set_cons_zero, List.set_cons_succ, i64_w, i32_w]; rfl)
    refine pure_ (i := 27) (N := some 104) (v := ?_) (a' := ?_) (fl 29 268435455) rfl rfl (by kernel_rfl) (fun _ _ _ h => h) (Or.inl ⟨by rfl, ?_⟩) ?_ ?_
    rotate_left; · (intro w'; go_simp; with_reducible rfl)
    rotate_left; · (simp only [Act.put, List.setIfInBounds_toArray, List.set_cons_zero, List.set_cons_succ, i64_w, i32_w]; rfl)
    refine pure_ (i := 28) (N := some 8) (v := ?_) (a' := ?_) (fl 29 536870911) rfl rfl (by kernel_rfl) (fun _ _ _ h => h) (Or.inl ⟨by rfl, ?_⟩) ?_ ?_
    rotate_left; · (intro w'; go_simp; with_reducible rfl)
    rotate_left; · (simp only [Act.put, List.setIfInBounds_toArray, List.set_cons_zero, List.set_cons_succ, i64_w, i32_w]; rfl)
    refine done_ (by kernel_rfl) ?_
    go_wp2
    go_ret
    exact ⟨rfl, HBV.out.trans (HB.out.mono HBV.out.size)⟩
  · skip
    have HBd := Lx.Hd.mk (below_drew HB.out)
    refine start_ (n := 29) (S := fun w' => CellsE w' xab sab Aab 2 ∧ CellsE w' xba sba Aba 2 ∧ CellsE w' x3 e A5 c5 ∧ CellsE w' x4 f B5 d5) (ds := []) (fl 29 0) (by kernel_rfl) rfl rfl ⟨BA.out _ HBd.out, BB.out _ HBd.out, BE.out _ HBd.out, BF.out _ HBd.out⟩ (fun hHeld => ?_)
    clear HB
    have HB := HBd
    clear HBd
    refine pure_ (i := 3) (N := some 80) (v := ?_) (a' := ?_) (fl 29 8) rfl rfl (by kernel_rfl) (fun _ _ _ h => h) (Or.inl ⟨by rfl, ?_⟩) ?_ ?_
    rotate_left; · (intro w'; go_simp; with_reducible rfl)
    rotate_left; · (simp only [Act.put, List.setIfInBounds_toArray, List.set_cons_zero, List.set_cons_succ, i64_w, i32_w]; rfl)
    refine take_ (i := 0) (N := some 77) (v := ?_) (a' := ?_) (fl 29 9) rfl rfl (by kernel_rfl) (fun _ _ _ h => h) (Or.inl ⟨by rfl, ?_⟩) hHeld ?_ ?_
    rotate_left; · (rintro w' ⟨⟨s0, s1, s2, s3, s4, s5⟩, ⟨s6, s7, s8, s9, s10, s11⟩, ⟨s12, s13, s14, s15, s16, s17⟩, ⟨s18, s19, s20, s21, s22, s23⟩⟩; go_simp; with_reducible rfl)
    rotate_left; · (simp only [Act.put, List.setIfInBounds_toArray, List.set_cons_zero, List.set_cons_succ, i64_w, i32_w]; rfl)
    refine take_ (i := 1) (N := some 78) (v := ?_) (a' := ?_) (fl 29 11) rfl rfl (by kernel_rfl) (fun _ _ _ h => h) (Or.inl ⟨by rfl, ?_⟩) hHeld ?_ ?_
    rotate_left; · (rintro w' ⟨⟨s0, s1, s2, s3, s4, s5⟩, ⟨s6, s7, s8, s9, s10, s11⟩, ⟨s12, s13, s14, s15, s16, s17⟩, ⟨s18, s19, s20, s21, s22, s23⟩⟩; go_simp; with_reducible rfl)
    rotate_left; · (simp only [Act.put, List.setIfInBounds_toArray, List.set_cons_zero, List.set_cons_succ, i64_w, i32_w]; rfl)
    refine one_ (i := 2) (N := some 79) (fl 29 15) rfl rfl (by kernel_rfl) (by decide) (fun K hK => ?_)
    refine goes_ Tryd.func36 (by kernel_rfl) rfl #[.agg #[.int .i64 sab.f0, .int .i64 sab.f1, .int .i64 sab.f2, .int .u32 sab.f3, .string sab.f4, .slice Aab sab.f5.length 2], .agg #[.int .i64 sba.f0, .int .i64 sba.f1, .int .i64 sba.f2, .int .u32 sba.f3, .string sba.f4, .slice Aba sba.f5.length 2]] (by rfl) rfl rfl (by (try simp only [List.map_toArray, List.map_cons, List.map_nil]); first | done | rfl) ?_
    with_reducible refine (KAB.out _ ?s1).mono ?_
    (case s1 => exact HB.out)
    rintro r W2c ⟨rfl, hb⟩
    refine ⟨_, rfl, ?_⟩
    have hn_ := Lx.Hd.mk (below_step HB.out hb)
    clear hb HB
    have HB := hn_
    clear hn_
    refine hK.out _ _ ⟨BA.out _ HB.out, BB.out _ HB.out, BE.out _ HB.out, BF.out _ HB.out⟩ (fun hHeld => ?_)
    clear hK K
    refine norm_ (a' := ?_) ?_ ?_
    rotate_left; · (show Act.put _ (some 79) _ = _; simp only [Act.put, List.setIfInBounds_toArray, List.set_cons_zero, List.set_cons_succ, i64_w, i32_w]; rfl)
    refine pure_ (i := 4) (N := some 81) (v := ?_) (a' := ?_) (fl 29 31) rfl rfl (by kernel_rfl) (fun _ _ _ h => h) (Or.inl ⟨by rfl, ?_⟩) ?_ ?_
    rotate_left; · (intro w'; go_simp; with_reducible rfl)
    rotate_left; · (simp only [Act.put, List.setIfInBounds_toArray, List.set_cons_zero, List.set_cons_succ, i64_w, i32_w]; rfl)
    refine pure_ (i := 5) (N := some 82) (v := ?_) (a' := ?_) (fl 29 63) rfl rfl (by kernel_rfl) (fun _ _ _ h => h) (Or.inl ⟨by rfl, ?_⟩) ?_ ?_
    rotate_left; · (intro w'; go_simp; with_reducible rfl)
    rotate_left; · (simp only [Act.put, List.setIfInBounds_toArray, List.set_cons_zero, List.set_cons_succ, i64_w, i32_w]; rfl)
    refine pure_ (i := 6) (N := some 83) (v := ?_) (a' := ?_) (fl 29 127) rfl rfl (by kernel_rfl) (fun _ _ _ h => h) (Or.inl ⟨by rfl, ?_⟩) ?_ ?_
    rotate_left; · (intro w'; go_simp; with_reducible rfl)
    rotate_left; · (simp only [Act.put, List.setIfInBounds_toArray, List.set_cons_zero, List.set_cons_succ, i64_w, i32_w]; rfl)
    refine pure_ (i := 7) (N := some 84) (v := ?_) (a' := ?_) (fl 29 255) rfl rfl (by kernel_rfl) (fun _ _ _ h => h) (Or.inl ⟨by rfl, ?_⟩) ?_ ?_
    rotate_left; · (intro w'; go_simp; with_reducible rfl)
    rotate_left; · (simp only [Act.put, List.setIfInBounds_toArray, List.set_cons_zero, List.set_cons_succ, i64_w, i32_w]; rfl)
    refine pure_ (i := 8) (N := some 85) (v := ?_) (a' := ?_) (fl 29 511) rfl rfl (by kernel_rfl) (fun _ _ _ h => h) (Or.inl ⟨by rfl, ?_⟩) ?_ ?_
    rotate_left; · (intro w'; go_simp; with_reducible rfl)
    rotate_left; · (simp only [Act.put, List.setIfInBounds_toArray, List.set_cons_zero, List.set_cons_succ, i64_w, i32_w]; rfl)
    refine take_ (i := 9) (N := some 86) (v := ?_) (a' := ?_) (fl 29 1023) rfl rfl (by kernel_rfl) (fun _ _ _ h => h) (Or.inl ⟨by rfl, ?_⟩) hHeld ?_ ?_
    rotate_left; · (rintro w' ⟨⟨s0, s1, s2, s3, s4, s5⟩, ⟨s6, s7, s8, s9, s10, s11⟩, ⟨s12, s13, s14, s15, s16, s17⟩, ⟨s18, s19, s20, s21, s22, s23⟩⟩; go_simp; with_reducible rfl)
    rotate_left; · (simp only [Act.put, List.setIfInBounds_toArray, List.set_cons_zero, List.set_cons_succ, i64_w, i32_w]; rfl)
    refine take_ (i := 11) (N := some 88) (v := ?_) (a' := ?_) (fl 29 3071) rfl rfl (by kernel_rfl) (fun _ _ _ h => h) (Or.inl ⟨by rfl, ?_⟩) hHeld ?_ ?_
    rotate_left; · (rintro w' ⟨⟨s0, s1, s2, s3, s4, s5⟩, ⟨s6, s7, s8, s9, s10, s11⟩, ⟨s12, s13, s14, s15, s16, s17⟩, ⟨s18, s19, s20, s21, s22, s23⟩⟩; go_simp; with_reducible rfl)
    rotate_left; · (simp only [Act.put, List.setIfInBounds_toArray, List.set_cons_zero, List.set_cons_succ, i64_w, i32_w]; rfl)
    refine one_ (i := 10) (N := some 87) (fl 29 4095) rfl rfl (by kernel_rfl) (by decide) (fun K hK => ?_)
    refine goes_ Tryd.func18 (by kernel_rfl) rfl #[.agg #[.int .i64 e.f0, .int .i64 e.f1, .int .i64 e.f2, .int .u32 e.f3, .string e.f4, .slice A5 e.f5.length c5]] (by rfl) rfl rfl (by (try simp only [List.map_toArray, List.map_cons, List.map_nil]); first | done | rfl) ?_
    with_reducible refine (CNE.out _ ?s1).mono ?_
    (case s1 => exact HB.out)
    rintro r W10 ⟨v1, rfl, ho1, hb⟩
    refine ⟨_, rfl, ?_⟩
    obtain ⟨A1', c1', rfl⟩ := Kd.R_slice ho1
    have HO1 := Lx.Hd.mk ho1
    clear ho1
    have hn_ := Lx.Hd.mk (below_step HB.out hb)
    clear hb HB
    have HB := hn_
    clear hn_
    refine hK.out _ _ ⟨BA.out _ HB.out, BB.out _ HB.out, BE.out _ HB.out, BF.out _ HB.out⟩ (fun hHeld => ?_)
    clear hK K
    refine norm_ (a' := ?_) ?_ ?_
    rotate_left; · (show Act.put _ (some 87) _ = _; simp only [Act.put, List.setIfInBounds_toArray, List.set_cons_zero, List.set_cons_succ, i64_w, i32_w]; rfl)
    refine one_ (i := 12) (N := some 89) (fl 29 8191) rfl rfl (by kernel_rfl) (by decide) (fun K hK => ?_)
    refine goes_ Tryd.func18 (by kernel_rfl) rfl #[.agg #[.int .i64 f.f0, .int .i64 f.f1, .int .i64 f.f2, .int .u32 f.f3, .string f.f4, .slice B5 f.f5.length d5]] (by rfl) rfl rfl (by (try simp only [List.map_toArray, List.map_cons, List.map_nil]); first | done | rfl) ?_
    with_reducible refine (CNF.out _ ?s1).mono ?_
    (case s1 => exact HB.out)
    rintro r W12 ⟨v2, rfl, ho2, hb⟩
    refine ⟨_, rfl, ?_⟩
    obtain ⟨A2', c2', rfl⟩ := Kd.R_slice ho2
    have HO2 := Lx.Hd.mk ho2
    clear ho2
    have hq_ := Lx.Hd.mk (Kd.R_below HO1.out hb)
    clear HO1
    have HO1 := hq_
    clear hq_
    have hn_ := Lx.Hd.mk (below_step HB.out hb)
    clear hb HB
    have HB := hn_
    clear hn_
    refine hK.out _ _ ⟨BA.out _ HB.out, BB.out _ HB.out, BE.out _ HB.out, BF.out _ HB.out⟩ (fun hHeld => ?_)
    clear hK K
    refine norm_ (a' := ?_) ?_ ?_
    rotate_left; · (show Act.put _ (some 89) _ = _; simp only [Act.put, List.setIfInBounds_toArray, List.set_cons_zero, List.set_cons_succ, i64_w, i32_w]; rfl)
    refine one_ (i := 13) (N := some 90) (fl 29 16383) rfl rfl (by kernel_rfl) (by decide) (fun K hK => ?_)
    refine goes_ Tryd.func21 (by kernel_rfl) rfl #[.slice A1' Ne.length c1', .slice A2' Nf.length c2'] (by rfl) rfl rfl (by (try simp only [List.map_toArray, List.map_cons, List.map_nil]); first | done | rfl) ?_
    with_reducible refine (texts2_calls Ne Nf (HSAME.out rfl) ?s1 A1' A2' c1' c2' _ ?s2 ?s3 ?s4 ?s5).mono ?_
    (case s1 => exact by omega)
    (case s2 => exact (Kd.R_reads' HO1.out).2.1)
    (case s3 => exact (Kd.R_reads' HO2.out).2.1)
    (case s4 => exact (Kd.R_reads' HO1.out).2.2)
    (case s5 => exact (Kd.R_reads' HO2.out).2.2)
    rintro r W13 ⟨rfl, hb⟩
    refine ⟨_, rfl, ?_⟩
    clear HO1 HO2
    have hn_ := Lx.Hd.mk (below_step HB.out hb)
    clear hb HB
    have HB := hn_
    clear hn_
    refine hK.out _ _ ⟨BA.out _ HB.out, BB.out _ HB.out, BE.out _ HB.out, BF.out _ HB.out⟩ (fun hHeld => ?_)
    clear hK K
    refine norm_ (a' := ?_) ?_ ?_
    rotate_left; · (show Act.put _ (some 90) _ = _; simp only [Act.put, List.setIfInBounds_toArray, List.set_cons_zero, List.set_cons_succ, i64_w, i32_w]; rfl)
    refine pure_ (i := 14) (N := some 91) (v := ?_) (a' := ?_) (fl 29 32767) rfl rfl (by kernel_rfl) (fun _ _ _ h => h) (Or.inl ⟨by rfl, ?_⟩) ?_ ?_
    rotate_left; · (intro w'; go_simp; with_reducible rfl)
    rotate_left; · (simp only [Act.put, List.setIfInBounds_toArray, List.set_cons_zero, List.set_cons_succ, i64_w, i32_w]; rfl)
    refine pure_ (i := 15) (N := some 92) (v := ?_) (a' := ?_) (fl 29 65535) rfl rfl (by kernel_rfl) (fun _ _ _ h => h) (Or.inl ⟨by rfl, ?_⟩) ?_ ?_
    rotate_left; · (intro w'; go_simp; with_reducible rfl)
    rotate_left; · (simp only [Act.put, List.setIfInBounds_toArray, List.set_cons_zero, List.set_cons_succ, i64_w, i32_w]; rfl)
    refine pure_ (i := 16) (N := some 93) (v := ?_) (a' := ?_) (fl 29 131071) rfl rfl (by kernel_rfl) (fun _ _ _ h => h) (Or.inl ⟨by rfl, ?_⟩) ?_ ?_
    rotate_left; · (intro w'; go_simp; with_reducible rfl)
    rotate_left; · (simp only [Act.put, List.setIfInBounds_toArray, List.set_cons_zero, List.set_cons_succ, i64_w, i32_w]; rfl)
    refine take_ (i := 17) (N := some 94) (v := ?_) (a' := ?_) (fl 29 262143) rfl rfl (by kernel_rfl) (fun _ _ _ h => h) (Or.inl ⟨by rfl, ?_⟩) hHeld ?_ ?_
    rotate_left; · (rintro w' ⟨⟨s0, s1, s2, s3, s4, s5⟩, ⟨s6, s7, s8, s9, s10, s11⟩, ⟨s12, s13, s14, s15, s16, s17⟩, ⟨s18, s19, s20, s21, s22, s23⟩⟩; go_simp; with_reducible rfl)
    rotate_left; · (simp only [Act.put, List.setIfInBounds_toArray, List.set_cons_zero, List.set_cons_succ, i64_w, i32_w]; rfl)
    refine take_ (i := 20) (N := some 97) (v := ?_) (a' := ?_) (fl 29 1310719) rfl rfl (by kernel_rfl) (fun _ _ _ h => h) (Or.inl ⟨by rfl, ?_⟩) hHeld ?_ ?_
    rotate_left; · (rintro w' ⟨⟨s0, s1, s2, s3, s4, s5⟩, ⟨s6, s7, s8, s9, s10, s11⟩, ⟨s12, s13, s14, s15, s16, s17⟩, ⟨s18, s19, s20, s21, s22, s23⟩⟩; go_simp; with_reducible rfl)
    rotate_left; · (simp only [Act.put, List.setIfInBounds_toArray, List.set_cons_zero, List.set_cons_succ, i64_w, i32_w]; rfl)
    refine take_ (i := 23) (N := some 100) (v := ?_) (a' := ?_) (fl 29 9699327) rfl rfl (by kernel_rfl) (fun _ _ _ h => h) (Or.inl ⟨by rfl, ?_⟩) hHeld ?_ ?_
    rotate_left; · (rintro w' ⟨⟨s0, s1, s2, s3, s4, s5⟩, ⟨s6, s7, s8, s9, s10, s11⟩, ⟨s12, s13, s14, s15, s16, s17⟩, ⟨s18, s19, s20, s21, s22, s23⟩⟩; go_simp; with_reducible rfl)
    rotate_left; · (simp only [Act.put, List.setIfInBounds_toArray, List.set_cons_zero, List.set_cons_succ, i64_w, i32_w]; rfl)
    refine join_ (σ := Option Addr × Nat × Nat × Option Addr × Nat) 6 (fl 29 12582911) (fun s => [(95, .slice s.1 Na.length s.2.1), (96, .slice (some ⟨s.2.2.1, 0, none⟩) 0 0), (98, .slice s.2.2.2.1 Ne.length s.2.2.2.2)]) (fun s w' => Below V.heap.size V w' ∧ (∃ b5, Kd.string.R 9 w' b5 (fun k => True ∧ some k ≠ (.slice (some ⟨s.2.2.1, 0, none⟩) 0 0 : Value).ownBlock) (.slice s.1 Na.length s.2.1) Na) ∧ Kd.string.R 9 w' V.heap.size (fun _ => True) (.slice (some ⟨s.2.2.1, 0, none⟩) 0 0) ([] : List ByteArray) ∧ Ne.length ≤ s.2.2.2.2 ∧ Kd.string.C w' s.2.2.2.1 Ne.length Ne) ?_ ?_
    rotate_left
    · intro hCont
      refine two_ (i := 18) (j := 19) (Ni := some 95) (Nj := some 96) (fl 29 9961471) (fl 29 10223615) rfl rfl rfl rfl (by kernel_rfl) (by decide) (by decide) (fun K hK => ?_) (fun K hK => ?_)
      · skip
        refine goes_ Tryd.func18 (by kernel_rfl) rfl #[.agg #[.int .i64 sab.f0, .int .i64 sab.f1, .int .i64 sab.f2, .int .u32 sab.f3, .string sab.f4, .slice Aab sab.f5.length 2]] (by rfl) rfl rfl (by (try simp only [List.map_toArray, List.map_cons, List.map_nil]); first | done | rfl) ?_
        with_reducible refine (CNA.out _ ?s1).mono ?_
        (case s1 => exact HB.out)
        rintro r W18 ⟨v5, rfl, ho5, hb⟩
        refine ⟨_, rfl, ?_⟩
        obtain ⟨A5', c5', rfl⟩ := Kd.R_slice ho5
        have HO5 : Lx.Hd (∃ b5, Kd.string.R 9 W18 b5 (fun k => k < W18.heap.size) (.slice A5' Na.length c5') Na) := Lx.Hd.mk ⟨_, Kd.R_mono (Kd.R_bound ho5) (fun k hk => hk.2.2.1)⟩
        clear ho5
        have hn_ := Lx.Hd.mk (below_step HB.out hb)
        clear hb HB
        have HB := hn_
        clear hn_
        refine hK.out _ _ ⟨BA.out _ HB.out, BB.out _ HB.out, BE.out _ HB.out, BF.out _ HB.out⟩ (fun hHeld => ?_)
        clear hK K
        refine norm_ (a' := ?_) ?_ ?_
        rotate_left; · (show Act.put _ (some 95) _ = _; simp only [Act.put, List.setIfInBounds_toArray, List.set_cons_zero, List.set_cons_succ, i64_w, i32_w]; rfl)
        refine two_ (i := 19) (j := 21) (Ni := some 96) (Nj := some 98) (fl 29 10485759) (fl 29 12058623) rfl rfl rfl rfl (by kernel_rfl) (by decide) (by decide) (fun K hK => ?_) (fun K hK => ?_)
        · skip
          have hb : Below W18.heap.size W18 (W18.alloc (.cells #[] 9)) := below_alloc (Below.refl _ _) _
          refine value_ (w1 := (W18.alloc (.cells #[] 9))) (v := .slice (some ⟨W18.heap.size, 0, none⟩) 0 0) (by rfl) rfl ?_ ?_
          · go_simp
            try rfl
          have HOL : Lx.Hd (Kd.string.R 9 (W18.alloc (.cells #[] 9)) V.heap.size (fun _ => True) (.slice (some ⟨W18.heap.size, 0, none⟩) 0 0) ([] : List ByteArray)) := Lx.Hd.mk (R_litW HB.out.size [] (by simp))
          have HO5n : Lx.Hd (∃ b5, Kd.string.R 9 (W18.alloc (.cells #[] 9)) b5 (fun k => True ∧ some k ≠ (.slice (some ⟨W18.heap.size, 0, none⟩) 0 0 : Value).ownBlock) (.slice A5' Na.length c5') Na) := Lx.Hd.mk (ex_imp HO5.out fun b5 h => Kd.R_alloc (Kd.R_mono h (fun k hk => ⟨trivial, fun h => own_ne h (by omega)⟩)) _)
          clear HO5
          have HO5 := HO5n
          clear HO5n
          have hn_ := Lx.Hd.mk (below_step HB.out hb)
          clear hb HB
          have HB := hn_
          clear hn_
          refine hK.out _ _ ⟨BA.out _ HB.out, BB.out _ HB.out, BE.out _ HB.out, BF.out _ HB.out⟩ (fun hHeld => ?_)
          clear hK K
          refine norm_ (a' := ?_) ?_ ?_
          rotate_left; · (show Act.put _ (some 96) _ = _; simp only [Act.put, List.setIfInBounds_toArray, List.set_cons_zero, List.set_cons_succ, i64_w, i32_w]; rfl)
          refine one_ (i := 21) (N := some 98) (fl 29 12582911) rfl rfl (by kernel_rfl) (by decide) (fun K hK => ?_)
          refine goes_ Tryd.func18 (by kernel_rfl) rfl #[.agg #[.int .i64 e.f0, .int .i64 e.f1, .int .i64 e.f2, .int .u32 e.f3, .string e.f4, .slice A5 e.f5.length c5]] (by rfl) rfl rfl (by (try simp only [List.map_toArray, List.map_cons, List.map_nil]); first | done | rfl) ?_
          with_reducible refine (CNE.out _ ?s1).mono ?_
          (case s1 => exact HB.out)
          rintro r W21 ⟨v7, rfl, ho7, hb⟩
          refine ⟨_, rfl, ?_⟩
          obtain ⟨A7', c7', rfl⟩ := Kd.R_slice ho7
          have HC7 := Lx.Hd.mk (Kd.R_reads' ho7).2
          clear ho7
          have hq_ := Lx.Hd.mk (ex_imp HO5.out (fun b5 h => Kd.R_below h hb))
          clear HO5
          have HO5 := hq_
          clear hq_
          have hq_ := Lx.Hd.mk (Kd.R_below HOL.out hb)
          clear HOL
          have HOL := hq_
          clear hq_
          have hn_ := Lx.Hd.mk (below_step HB.out hb)
          clear hb HB
          have HB := hn_
          clear hn_
          refine hK.out _ _ ⟨BA.out _ HB.out, BB.out _ HB.out, BE.out _ HB.out, BF.out _ HB.out⟩ (fun hHeld => ?_)
          clear hK K
          refine norm_ (a' := ?_) ?_ ?_
          rotate_left; · (show Act.put _ (some 98) _ = _; simp only [Act.put, List.setIfInBounds_toArray, List.set_cons_zero, List.set_cons_succ, i64_w, i32_w]; rfl)
          exact norm_ (by simp only [putAll, Act.put, List.setIfInBounds_toArray, List.set_cons_zero, List.set_cons_succ]) (hCont (A5', c5', W18.heap.size, A7', c7') _ ⟨HB.out, HO5.out, HOL.out, HC7.out.1, HC7.out.2⟩)
        · skip
          refine goes_ Tryd.func18 (by kernel_rfl) rfl #[.agg #[.int .i64 e.f0, .int .i64 e.f1, .int .i64 e.f2, .int .u32 e.f3, .string e.f4, .slice A5 e.f5.length c5]] (by rfl) rfl rfl (by (try simp only [List.map_toArray, List.map_cons, List.map_nil]); first | done | rfl) ?_
          with_reducible refine (CNE.out _ ?s1).mono ?_
          (case s1 => exact HB.out)
          rintro r W21 ⟨v7, rfl, ho7, hb⟩
          refine ⟨_, rfl, ?_⟩
          obtain ⟨A7', c7', rfl⟩ := Kd.R_slice ho7
          have HC7 := Lx.Hd.mk (Kd.R_reads' ho7).2
          clear ho7
          have hq_ := Lx.Hd.mk (ex_imp HO5.out (fun b5 h => Kd.R_below h hb))
          clear HO5
          have HO5 := hq_
          clear hq_
          have HZ21 := Lx.Hd.mk hb.size
          have hn_ := Lx.Hd.mk (below_step HB.out hb)
          clear hb HB
          have HB := hn_
          clear hn_
          refine hK.out _ _ ⟨BA.out _ HB.out, BB.out _ HB.out, BE.out _ HB.out, BF.out _ HB.out⟩ (fun hHeld => ?_)
          clear hK K
          refine norm_ (a' := ?_) ?_ ?_
          rotate_left; · (show Act.put _ (some 98) _ = _; simp only [Act.put, List.setIfInBounds_toArray, List.set_cons_zero, List.set_cons_succ, i64_w, i32_w]; rfl)
          refine one_ (i := 19) (N := some 96) (fl 29 12582911) rfl rfl (by kernel_rfl) (by decide) (fun K hK => ?_)
          have hb : Below W21.heap.size W21 (W21.alloc (.cells #[] 9)) := below_alloc (Below.refl _ _) _
          refine value_ (w1 := (W21.alloc (.cells #[] 9))) (v := .slice (some ⟨W21.heap.size, 0, none⟩) 0 0) (by rfl) rfl ?_ ?_
          · go_simp
            try rfl
          have HOL : Lx.Hd (Kd.string.R 9 (W21.alloc (.cells #[] 9)) V.heap.size (fun _ => True) (.slice (some ⟨W21.heap.size, 0, none⟩) 0 0) ([] : List ByteArray)) := Lx.Hd.mk (R_litW HB.out.size [] (by simp))
          have HO5n : Lx.Hd (∃ b5, Kd.string.R 9 (W21.alloc (.cells #[] 9)) b5 (fun k => True ∧ some k ≠ (.slice (some ⟨W21.heap.size, 0, none⟩) 0 0 : Value).ownBlock) (.slice A5' Na.length c5') Na) := Lx.Hd.mk (ex_imp HO5.out fun b5 h => Kd.R_alloc (Kd.R_mono h (fun k hk => ⟨trivial, fun h => own_ne h (by have := HZ21.out; omega)⟩)) _)
          clear HO5
          have HO5 := HO5n
          clear HO5n
          have HC7n := Lx.Hd.mk (And.intro HC7.out.1 (Kd.C_alloc HC7.out.2 (.cells #[] 9)))
          clear HC7
          have HC7 := HC7n
          clear HC7n
          have hn_ := Lx.Hd.mk (below_step HB.out hb)
          clear hb HB
          have HB := hn_
          clear hn_
          refine hK.out _ _ ⟨BA.out _ HB.out, BB.out _ HB.out, BE.out _ HB.out, BF.out _ HB.out⟩ (fun hHeld => ?_)
          clear hK K
          refine norm_ (a' := ?_) ?_ ?_
          rotate_left; · (show Act.put _ (some 96) _ = _; simp only [Act.put, List.setIfInBounds_toArray, List.set_cons_zero, List.set_cons_succ, i64_w, i32_w]; rfl)
          exact norm_ (by simp only [putAll, Act.put, List.setIfInBounds_toArray, List.set_cons_zero, List.set_cons_succ]) (hCont (A5', c5', W21.heap.size, A7', c7') _ ⟨HB.out, HO5.out, HOL.out, HC7.out.1, HC7.out.2⟩)
      · skip
        have hb : Below W13.heap.size W13 (W13.alloc (.cells #[] 9)) := below_alloc (Below.refl _ _) _
        refine value_ (w1 := (W13.alloc (.cells #[] 9))) (v := .slice (some ⟨W13.heap.size, 0, none⟩) 0 0) (by rfl) rfl ?_ ?_
        · go_simp
          try rfl
        have HOL : Lx.Hd (Kd.string.R 9 (W13.alloc (.cells #[] 9)) V.heap.size (fun _ => True) (.slice (some ⟨W13.heap.size, 0, none⟩) 0 0) ([] : List ByteArray)) := Lx.Hd.mk (R_litW HB.out.size [] (by simp))
        have hn_ := Lx.Hd.mk (below_step HB.out hb)
        clear hb HB
        have HB := hn_
        clear hn_
        refine hK.out _ _ ⟨BA.out _ HB.out, BB.out _ HB.out, BE.out _ HB.out, BF.out _ HB.out⟩ (fun hHeld => ?_)
        clear hK K
        refine norm_ (a' := ?_) ?_ ?_
        rotate_left; · (show Act.put _ (some 96) _ = _; simp only [Act.put, List.setIfInBounds_toArray, List.set_cons_zero, List.set_cons_succ, i64_w, i32_w]; rfl)
        refine one_ (i := 18) (N := some 95) (fl 29 10485759) rfl rfl (by kernel_rfl) (by decide) (fun K hK => ?_)
        refine goes_ Tryd.func18 (by kernel_rfl) rfl #[.agg #[.int .i64 sab.f0, .int .i64 sab.f1, .int .i64 sab.f2, .int .u32 sab.f3, .string sab.f4, .slice Aab sab.f5.length 2]] (by rfl) rfl rfl (by (try simp only [List.map_toArray, List.map_cons, List.map_nil]); first | done | rfl) ?_
        with_reducible refine (CNA.out _ ?s1).mono ?_
        (case s1 => exact HB.out)
        rintro r W18 ⟨v5, rfl, ho5, hb⟩
        refine ⟨_, rfl, ?_⟩
        obtain ⟨A5', c5', rfl⟩ := Kd.R_slice ho5
        have HO5 : Lx.Hd (∃ b5, Kd.string.R 9 W18 b5 (fun k => True ∧ some k ≠ (.slice (some ⟨W13.heap.size, 0, none⟩) 0 0 : Value).ownBlock) (.slice A5' Na.length c5') Na) := Lx.Hd.mk ⟨_, Kd.R_mono (Kd.R_bound ho5) (fun k hk => ⟨trivial, fun h => own_ne h (by have := hk.2.1; simp at this; omega)⟩)⟩
        clear ho5
        have hq_ := Lx.Hd.mk (Kd.R_below HOL.out hb)
        clear HOL
        have HOL := hq_
        clear hq_
        have hn_ := Lx.Hd.mk (below_step HB.out hb)
        clear hb HB
        have HB := hn_
        clear hn_
        refine hK.out _ _ ⟨BA.out _ HB.out, BB.out _ HB.out, BE.out _ HB.out, BF.out _ HB.out⟩ (fun hHeld => ?_)
        clear hK K
        refine norm_ (a' := ?_) ?_ ?_
        rotate_left; · (show Act.put _ (some 95) _ = _; simp only [Act.put, List.setIfInBounds_toArray, List.set_cons_zero, List.set_cons_succ, i64_w, i32_w]; rfl)
        refine one_ (i := 21) (N := some 98) (fl 29 12582911) rfl rfl (by kernel_rfl) (by decide) (fun K hK => ?_)
        refine goes_ Tryd.func18 (by kernel_rfl) rfl #[.agg #[.int .i64 e.f0, .int .i64 e.f1, .int .i64 e.f2, .int .u32 e.f3, .string e.f4, .slice A5 e.f5.length c5]] (by rfl) rfl rfl (by (try simp only [List.map_toArray, List.map_cons, List.map_nil]); first | done | rfl) ?_
        with_reducible refine (CNE.out _ ?s1).mono ?_
        (case s1 => exact HB.out)
        rintro r W21 ⟨v7, rfl, ho7, hb⟩
        refine ⟨_, rfl, ?_⟩
        obtain ⟨A7', c7', rfl⟩ := Kd.R_slice ho7
        have HC7 := Lx.Hd.mk (Kd.R_reads' ho7).2
        clear ho7
        have hq_ := Lx.Hd.mk (ex_imp HO5.out (fun b5 h => Kd.R_below h hb))
        clear HO5
        have HO5 := hq_
        clear hq_
        have hq_ := Lx.Hd.mk (Kd.R_below HOL.out hb)
        clear HOL
        have HOL := hq_
        clear hq_
        have hn_ := Lx.Hd.mk (below_step HB.out hb)
        clear hb HB
        have HB := hn_
        clear hn_
        refine hK.out _ _ ⟨BA.out _ HB.out, BB.out _ HB.out, BE.out _ HB.out, BF.out _ HB.out⟩ (fun hHeld => ?_)
        clear hK K
        refine norm_ (a' := ?_) ?_ ?_
        rotate_left; · (show Act.put _ (some 98) _ = _; simp only [Act.put, List.setIfInBounds_toArray, List.set_cons_zero, List.set_cons_succ, i64_w, i32_w]; rfl)
        exact norm_ (by simp only [putAll, Act.put, List.setIfInBounds_toArray, List.set_cons_zero, List.set_cons_succ]) (hCont (A5', c5', W13.heap.size, A7', c7') _ ⟨HB.out, HO5.out, HOL.out, HC7.out.1, HC7.out.2⟩)
    clear HB hHeld
    rintro ⟨A5', c5', g, A7', c7'⟩ W22 ⟨hB_, h5_, hL_, l7_, h7_⟩
    have HB := Lx.Hd.mk hB_
    have HO5 := Lx.Hd.mk h5_
    have HOL := Lx.Hd.mk hL_
    have HC7 := Lx.Hd.mk (And.intro l7_ h7_)
    clear hB_ h5_ hL_ l7_ h7_
    have hHeld : CellsE W22 xab sab Aab 2 ∧ CellsE W22 xba sba Aba 2 ∧ CellsE W22 x3 e A5 c5 ∧ CellsE W22 x4 f B5 d5 := ⟨BA.out _ HB.out, BB.out _ HB.out, BE.out _ HB.out, BF.out _ HB.out⟩
    refine norm_ (a' := ?_) ?_ ?_
    rotate_left; · (simp only [putAll, Act.put, List.setIfInBounds_toArray, List.set_cons_zero, List.set_cons_succ]; rfl)
    refine one_ (i := 22) (N := some 99) (fl 29 16777215) rfl rfl (by kernel_rfl) (by decide) (fun K hK => ?_)
    refine Kd.R_append_rows_step Kd.string (w0 := V) V.heap.size (by rfl) (.tmp 96) (.tmp 98) 30 9 (.string ⟨#[]⟩) 16 (by rfl) Tryd.underlying30 info9 rfl (by decide) (by omega) (.slice (some ⟨g, 0, none⟩) 0 0) ([] : List ByteArray) (Ne) _ _ _ (fun _ => True) (fun _ => False) (by rfl) (by rfl) HOL.out HC7.out.2 (fun _ _ h => h) (fun _ h => h.elim) (fun _ _ => trivial) HB.out HB.out.size (by simp only [List.length_nil]; omega) ?_
    intro v8 W23 ho8 hb8 hg8 hat8
    have hq_ := Lx.Hd.mk (ex_imp HO5.out (fun b5 h => Kd.R_after h hg8 hat8))
    clear HO5
    have HO5 := hq_
    clear hq_ HB
    have HB := Lx.Hd.mk hb8
    have HO8 := Lx.Hd.mk ho8
    clear ho8 hb8 hg8 hat8 HOL HC7
    refine hK.out _ _ ⟨BA.out _ HB.out, BB.out _ HB.out, BE.out _ HB.out, BF.out _ HB.out⟩ (fun hHeld => ?_)
    clear hK K
    refine norm_ (a' := ?_) ?_ ?_
    rotate_left; · (show Act.put _ (some 99) _ = _; simp only [Act.put, List.setIfInBounds_toArray, List.set_cons_zero, List.set_cons_succ, i64_w, i32_w]; rfl)
    refine one_ (i := 24) (N := some 101) (fl 29 33554431) rfl rfl (by kernel_rfl) (by decide) (fun K hK => ?_)
    refine goes_ Tryd.func18 (by kernel_rfl) rfl #[.agg #[.int .i64 f.f0, .int .i64 f.f1, .int .i64 f.f2, .int .u32 f.f3, .string f.f4, .slice B5 f.f5.length d5]] (by rfl) rfl rfl (by (try simp only [List.map_toArray, List.map_cons, List.map_nil]); first | done | rfl) ?_
    with_reducible refine (CNF.out _ ?s1).mono ?_
    (case s1 => exact HB.out)
    rintro r W24 ⟨v9, rfl, ho9, hb⟩
    refine ⟨_, rfl, ?_⟩
    obtain ⟨A9', c9', rfl⟩ := Kd.R_slice ho9
    have HC9 := Lx.Hd.mk (Kd.R_reads' ho9).2
    clear ho9
    have hq_ := Lx.Hd.mk (ex_imp HO5.out (fun b5 h => Kd.R_below h hb))
    clear HO5
    have HO5 := hq_
    clear hq_
    have hq_ := Lx.Hd.mk (Kd.R_below HO8.out hb)
    clear HO8
    have HO8 := hq_
    clear hq_
    have hn_ := Lx.Hd.mk (below_step HB.out hb)
    clear hb HB
    have HB := hn_
    clear hn_
    refine hK.out _ _ ⟨BA.out _ HB.out, BB.out _ HB.out, BE.out _ HB.out, BF.out _ HB.out⟩ (fun hHeld => ?_)
    clear hK K
    refine norm_ (a' := ?_) ?_ ?_
    rotate_left; · (show Act.put _ (some 101) _ = _; simp only [Act.put, List.setIfInBounds_toArray, List.set_cons_zero, List.set_cons_succ, i64_w, i32_w]; rfl)
    refine one_ (i := 25) (N := some 102) (fl 29 67108863) rfl rfl (by kernel_rfl) (by decide) (fun K hK => ?_)
    refine Kd.R_append_rows_step Kd.string (w0 := V) V.heap.size (by rfl) (.tmp 99) (.tmp 101) 30 9 (.string ⟨#[]⟩) 16 (by rfl) Tryd.underlying30 info9 rfl (by decide) (by omega) (v8) ([] ++ Ne) (Nf) _ _ _ (fun _ => True) (fun _ => False) (by rfl) (by rfl) HO8.out HC9.out.2 (fun _ _ h => h) (fun _ h => h.elim) (fun _ _ => trivial) HB.out HB.out.size (by simp only [List.nil_append]; omega) ?_
    intro v10 W25 ho10 hb10 hg10 hat10
    have hq_ := Lx.Hd.mk (ex_imp HO5.out (fun b5 h => Kd.R_after h hg10 hat10))
    clear HO5
    have HO5 := hq_
    clear hq_ HB
    have HB := Lx.Hd.mk hb10
    rw [← HNN.out] at ho10
    obtain ⟨A10, c10, rfl⟩ := Kd.R_slice ho10
    have HO10 := Lx.Hd.mk ho10
    clear ho10 hb10 hg10 hat10 HO8 HC9
    refine hK.out _ _ ⟨BA.out _ HB.out, BB.out _ HB.out, BE.out _ HB.out, BF.out _ HB.out⟩ (fun hHeld => ?_)
    clear hK K
    refine norm_ (a' := ?_) ?_ ?_
    rotate_left; · (show Act.put _ (some 102) _ = _; simp only [Act.put, List.setIfInBounds_toArray, List.set_cons_zero, List.set_cons_succ, i64_w, i32_w]; rfl)
    refine one_ (i := 26) (N := some 103) (fl 29 134217727) rfl rfl (by kernel_rfl) (by decide) (fun K hK => ?_)
    obtain ⟨b5, h5_⟩ := HO5.out
    refine goes_ Tryd.func21 (by kernel_rfl) rfl #[.slice A5' Na.length c5', .slice A10 Na.length c10] (by rfl) rfl rfl (by (try simp only [List.map_toArray, List.map_cons, List.map_nil]); first | done | rfl) ?_
    with_reducible refine (texts_calls Na ?s1 A5' A10 c5' c10 _ ?s2 ?s3 ?s4 ?s5).mono ?_
    (case s1 => exact by omega)
    (case s2 => exact (Kd.R_reads' h5_).2.1)
    (case s3 => exact (Kd.R_reads' HO10.out).2.1)
    (case s4 => exact (Kd.R_reads' h5_).2.2)
    (case s5 => exact (Kd.R_reads' HO10.out).2.2)
    rintro r W26 ⟨rfl, hb⟩
    refine ⟨_, rfl, ?_⟩
    have hn_ := Lx.Hd.mk (below_step HB.out hb)
    clear hb HB
    have HB := hn_
    clear hn_
    refine hK.out _ _ ⟨BA.out _ HB.out, BB.out _ HB.out, BE.out _ HB.out, BF.out _ HB.out⟩ (fun hHeld => ?_)
    clear hK K
    refine norm_ (a' := ?_) ?_ ?_
    rotate_left; · (show Act.put _ (some 103) _ = _; simp only [Act.put, List.setIfInBounds_toArray, List.set_cons_zero, List.set_cons_succ, i64_w, i32_w]; rfl)
    refine pure_ (i := 27) (N := some 104) (v := ?_) (a' := ?_) (fl 29 268435455) rfl rfl (by kernel_rfl) (fun _ _ _ h => h) (Or.inl ⟨by rfl, ?_⟩) ?_ ?_
    rotate_left; · (intro w'; go_simp; with_reducible rfl)
    rotate_left; · (simp only [Act.put, List.setIfInBounds_toArray, List.set_cons_zero, List.set_cons_succ, i64_w, i32_w]; rfl)
    refine pure_ (i := 28) (N := some 8) (v := ?_) (a' := ?_) (fl 29 536870911) rfl rfl (by kernel_rfl) (fun _ _ _ h => h) (Or.inl ⟨by rfl, ?_⟩) ?_ ?_
    rotate_left; · (intro w'; go_simp; with_reducible rfl)
    rotate_left; · (simp only [Act.put, List.setIfInBounds_toArray, List.set_cons_zero, List.set_cons_succ, i64_w, i32_w]; rfl)
    refine done_ (by kernel_rfl) ?_
    go_wp2
    go_ret
    exact ⟨rfl, HBV.out.trans (HB.out.mono HBV.out.size)⟩
end Go.Proofs.YtgkhpecllhiidaaDoor.A
