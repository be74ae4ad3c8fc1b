/- AstCalls: the walk. -/
import Derived.Test.YtgkhpecllhiidaaDoorZBb
import Derived.Test.YtgkhpecllhiidaaDoorZPw
import Derived.Test.YtgkhpecllhiidaaDoorZDh
set_option linter.unusedVariables false
set_option linter.unusedSimpArgs false
namespace Go.Proofs.YtgkhpecllhiidaaDoor.A
open Go.RowKit Go.Shelf Go.Proofs.YtgkhpecllhiidaaDoor.As Go.Proofs.YtgkhpecllhiidaaDoorW.PrintWords Go.Proofs.YtgkhpecllhiidaaDoorW.PrintLast Go.Proofs.YtgkhpecllhiidaaDoorW.PrintMore
theorem blk6 (w : World) (o1 o2 o3 o4 o5 o6 : Obj) : ((((((w.alloc o1).alloc o2).alloc o3).alloc o4).alloc o5).alloc o6).heap[w.heap.size]? = some o1 ∧ ((((((w.alloc o1).alloc o2).alloc o3).alloc o4).alloc o5).alloc o6).heap[w.heap.size + 1]? = some o2 ∧ ((((((w.alloc o1).alloc o2).alloc o3).alloc o4).alloc o5).alloc o6).heap[w.heap.size + 1 + 1]? = some o3 ∧ ((((((w.alloc o1).alloc o2).alloc o3).alloc o4).alloc o5).alloc o6).heap[w.heap.size + 1 + 1 + 1]? = some o4 ∧ ((((((w.alloc o1).alloc o2).alloc o3).alloc o4).alloc o5).alloc o6).heap[w.heap.size + 1 + 1 + 1 + 1]? = some o5 ∧ ((((((w.alloc o1).alloc o2).alloc o3).alloc o4).alloc o5).alloc o6).heap[w.heap.size + 1 + 1 + 1 + 1 + 1]? = some o6 := by
  have z1 : (w.alloc o1).heap.size = w.heap.size + 1 := by simp
  have z2 : ((w.alloc o1).alloc o2).heap.size = w.heap.size + 1 + 1 := by simp
  have z3 : (((w.alloc o1).alloc o2).alloc o3).heap.size = w.heap.size + 1 + 1 + 1 := by simp
  have z4 : ((((w.alloc o1).alloc o2).alloc o3).alloc o4).heap.size = w.heap.size + 1 + 1 + 1 + 1 := by simp
  have z5 : (((((w.alloc o1).alloc o2).alloc o3).alloc o4).alloc o5).heap.size = w.heap.size + 1 + 1 + 1 + 1 + 1 := by simp
  exact ⟨(blk_alloc (blk_alloc (blk_alloc (blk_alloc (blk_alloc (World.alloc_heap_new w o1) _) _) _) _) _), z1 ▸ (blk_alloc (blk_alloc (blk_alloc (blk_alloc (World.alloc_heap_new (w.alloc o1) o2) _) _) _) _), z2 ▸ (blk_alloc (blk_alloc (blk_alloc (World.alloc_heap_new ((w.alloc o1).alloc o2) o3) _) _) _), z3 ▸ (blk_alloc (blk_alloc (World.alloc_heap_new (((w.alloc o1).alloc o2).alloc o3) o4) _) _), z4 ▸ (blk_alloc (World.alloc_heap_new ((((w.alloc o1).alloc o2).alloc o3).alloc o4) o5) _), z5 ▸ (World.alloc_heap_new (((((w.alloc o1).alloc o2).alloc o3).alloc o4).alloc o5) o6)⟩
theorem rowB {α : Type} (k : Kd α) {W : World} {B t : Nat} {x y : α} {cs ds : List Value} (hsz : cs.length = k.sz) (hsd : ds.length = k.sz) (hK : k.K W x cs) (hD : k.K W y ds) (hh : W.heap[B]? = some (.cells (cs ++ ds).toArray t (0, 0))) : k.C W (some ⟨B, 0, none⟩) 2 [x, y] := by
  refine ⟨rfl, by omega, fun _ => ⟨_, rfl, fun j p hj => ?_⟩⟩
  have hj2 : j < 2 := by have := (List.getElem?_eq_some_iff.1 hj).1; simpa using this
  have : j = 0 ∨ j = 1 := by omega
  rcases this with rfl | rfl
  · obtain rfl := Option.some.inj hj
    refine ⟨cs, hsz, hK, fun i u hi => ?_⟩
    have hlt := (List.getElem?_eq_some_iff.1 hi).1
    rw [add_plain, Nat.zero_mul, Nat.zero_add]
    unfold World.cell?
    rw [hh]
    simp only [List.getElem?_toArray]
    rw [List.getElem?_append_left hlt]; exact hi
  · obtain rfl := Option.some.inj hj
    refine ⟨ds, hsd, hD, fun i u hi => ?_⟩
    rw [add_plain, Nat.one_mul]
    unfold World.cell?
    rw [hh]
    simp only [List.getElem?_toArray]
    rw [← hsz, List.getElem?_append_right (by omega), show cs.length + i - cs.length = i by omega]; exact hi
theorem lightSt_any (l : List SS) (hP : ∀ s ∈ l, okS' s) (A : Option Addr) (c : Nat) (w : World) (hC : kS.C w A l.length l) (hl : l.length ≤ c) (b : Bool) (hb : decide ((0 : Int) ≤ stIs l 300) = b) :
    Calls Tryd.prog 23 #[.slice A l.length c, .int .i64 300] w fun r w' => r = .returned (.bool b) ∧ Below w.heap.size w w' := by
  have hst : ∀ (A : Option Addr) (c : Nat) (w : World), kS.C w A l.length l → l.length ≤ c → Calls Tryd.prog 60 #[.slice A l.length c, .int .i64 300] w fun e w' => e = .returned (.int .i64 (stIs l 300)) ∧ Below w.heap.size w w' := stmts_any (deepSs l) l 300 (Nat.le_refl _) hP (by omega) (by omega)
  generalize stIs l 300 = z at *
  have HST := Lx.Hd.mk (hst A c w hC hl)
  clear hst hC hP
  generalize l.length = n at *
  cases b
  · have hz : ¬ (0 : Int) ≤ z := of_decide_eq_false hb
    clear hb
    go_enter Tryd.func23, Tryd.ntmps23
    go_wp2_with (go_at_call 60; (with_reducible refine HST.out.mono ?_); rintro r W3 ⟨rfl, hb⟩; have HB := Lx.Hd.mk hb; clear hb)
    go_ret
    exact ⟨retb_eq (by first | (simp; done) | (simp; omega)), HB.out⟩
  · have hz : (0 : Int) ≤ z := of_decide_eq_true hb
    clear hb
    go_enter Tryd.func23, Tryd.ntmps23
    go_wp2_with (go_at_call 60; (with_reducible refine HST.out.mono ?_); rintro r W3 ⟨rfl, hb⟩; have HB := Lx.Hd.mk hb; clear hb)
    go_ret
    exact ⟨retb_eq (by first | (simp; done) | (simp; omega)), HB.out⟩
theorem lightSt_2 (s t : SS) (h1 : okS' s) (h2 : okS' t) (A : Option Addr) (w : World) (b : Bool) (hb : decide ((0 : Int) ≤ stIs [s, t] 300) = b) (hC : kS.C w A 2 [s, t]) :
    Calls Tryd.prog 23 #[.slice A 2 2, .int .i64 300] w fun r w' => r = .returned (.bool b) ∧ Below w.heap.size w w' :=
  lightSt_any [s, t] (fun x hx => by rcases List.mem_cons.1 hx with rfl | hx; exact h1; rcases List.mem_cons.1 hx with rfl | hx; exact h2; cases hx) A 2 w hC (Nat.le_refl _) b hb
theorem lightSt_says (s t : SS) (h1 : okS' s) (h2 : okS' t) (h : decide ((0 : Int) ≤ stIs [s, t] 300) = true) : sizeS s ≤ 300 ∧ sizeS t ≤ 300 := by
  obtain ⟨q1, q2, q3⟩ := stIs_lit [s, t] 300 (fun x hx => by rcases List.mem_cons.1 hx with rfl | hx; exact h1; rcases List.mem_cons.1 hx with rfl | hx; exact h2; cases hx) (by omega) (by omega)
  have h0 := of_decide_eq_true h
  have := q3 h0
  rw [sizeSs, sizeSs, sizeSs] at this
  omega
theorem checkS_calls (s : SS) (hf : fitB (.st s) = true) (A5 A6 A7 A8 A9 : Option Addr) (c5 c6 c7 c8 c9 : Nat) (W : World) (hG : Keys W) (hR : RowsS W s A5 A6 A7 A8 A9 c5 c6 c7 c8 c9) :
    Calls Tryd.prog 22 #[.agg #[.int .i64 s.f0, .int .i64 s.f1, .int .i64 s.f2, .int .i64 s.f3, .string s.f4, .slice A5 s.f5.length c5, .slice A6 s.f6.length c6, .slice A7 s.f7.length c7, .slice A8 s.f8.length c8, .slice A9 s.f9.length c9]] W fun r W' => r = .returned (.int .i64 (checkN [.st s])) ∧ Below W.heap.size W W' := by
  obtain ⟨a0, a1, a2, a3, a4, l5, l6, l7, l8, l9⟩ := s
  exact ast_CheckStmt.calls a0 a1 a2 a3 a4 A5 c5 l5 A6 c6 l6 A7 c7 l7 A8 c8 l8 A9 c9 l9 _ W hG hR.1 hR.2.2.2.2.2.1 hR.2.1 hR.2.2.2.2.2.2.1 hR.2.2.1 hR.2.2.2.2.2.2.2.1 hR.2.2.2.1 hR.2.2.2.2.2.2.2.2.1 hR.2.2.2.2.1 hR.2.2.2.2.2.2.2.2.2 (by unfold ast_CheckStmt.f; rw [if_pos hf])
theorem rowSS (s t : SS) (S5 S6 S7 S8 S9 : Option Addr) (m5 m6 m7 m8 m9 : Nat) (T5 T6 T7 T8 T9 : Option Addr) (n5 n6 n7 n8 n9 : Nat) (W : World) (hs : RowsS W s S5 S6 S7 S8 S9 m5 m6 m7 m8 m9) (ht : RowsS W t T5 T6 T7 T8 T9 n5 n6 n7 n8 n9) :
    kS.C (W.alloc (.cells #[.int .i64 s.f0, .int .i64 s.f1, .int .i64 s.f2, .int .i64 s.f3, .string s.f4, .slice S5 s.f5.length m5, .slice S6 s.f6.length m6, .slice S7 s.f7.length m7, .slice S8 s.f8.length m8, .slice S9 s.f9.length m9, .int .i64 t.f0, .int .i64 t.f1, .int .i64 t.f2, .int .i64 t.f3, .string t.f4, .slice T5 t.f5.length n5, .slice T6 t.f6.length n6, .slice T7 t.f7.length n7, .slice T8 t.f8.length n8, .slice T9 t.f9.length n9] 38)) (some ⟨W.heap.size, 0, none⟩) 2 [s, t] := by
  have hh := World.alloc_heap_new W (.cells #[.int .i64 s.f0, .int .i64 s.f1, .int .i64 s.f2, .int .i64 s.f3, .string s.f4, .slice S5 s.f5.length m5, .slice S6 s.f6.length m6, .slice S7 s.f7.length m7, .slice S8 s.f8.length m8, .slice S9 s.f9.length m9, .int .i64 t.f0, .int .i64 t.f1, .int .i64 t.f2, .int .i64 t.f3, .string t.f4, .slice T5 t.f5.length n5, .slice T6 t.f6.length n6, .slice T7 t.f7.length n7, .slice T8 t.f8.length n8, .slice T9 t.f9.length n9] 38)
  exact rowB kS (cs := [.int .i64 s.f0, .int .i64 s.f1, .int .i64 s.f2, .int .i64 s.f3, .string s.f4, .slice S5 s.f5.length m5, .slice S6 s.f6.length m6, .slice S7 s.f7.length m7, .slice S8 s.f8.length m8, .slice S9 s.f9.length m9]) (ds := [.int .i64 t.f0, .int .i64 t.f1, .int .i64 t.f2, .int .i64 t.f3, .string t.f4, .slice T5 t.f5.length n5, .slice T6 t.f6.length n6, .slice T7 t.f7.length n7, .slice T8 t.f8.length n8, .slice T9 t.f9.length n9]) rfl rfl (k38_mk _ s hs.2.2.2.2.2.1 (Kd.C_alloc hs.1 _) hs.2.2.2.2.2.2.1 (Kd.C_alloc hs.2.1 _) hs.2.2.2.2.2.2.2.1 (Kd.C_alloc hs.2.2.1 _) hs.2.2.2.2.2.2.2.2.1 (Kd.C_alloc hs.2.2.2.1 _) hs.2.2.2.2.2.2.2.2.2 (Kd.C_alloc hs.2.2.2.2.1 _)) (k38_mk _ t ht.2.2.2.2.2.1 (Kd.C_alloc ht.1 _) ht.2.2.2.2.2.2.1 (Kd.C_alloc ht.2.1 _) ht.2.2.2.2.2.2.2.1 (Kd.C_alloc ht.2.2.1 _) ht.2.2.2.2.2.2.2.2.1 (Kd.C_alloc ht.2.2.2.1 _) ht.2.2.2.2.2.2.2.2.2 (Kd.C_alloc ht.2.2.2.2.1 _)) hh
set_option maxRecDepth 100000 in
set_option maxHeartbeats 40000000 in
theorem astCalls_walk (p q : SP) (e f : SE) (s t : SS) (ty : Int) (A1 A2 A3 B1 B2 B3 E5 F5 S5 S6 S7 S8 S9 T5 T6 T7 T8 T9 : Option Addr) (c1 c2 c3 d1 d2 d3 i5 k5 m5 m6 m7 m8 m9 n5 n6 n7 n8 n9 : Nat) (w : World) (hG : Keys w) (hP : RowsP w p A1 A2 A3 c1 c2 c3) (hQ : RowsP w q B1 B2 B3 d1 d2 d3) (hE : RowsE w e E5 i5) (hF : RowsE w f F5 k5) (hS : RowsS w s S5 S6 S7 S8 S9 m5 m6 m7 m8 m9) (hT : RowsS w t T5 T6 T7 T8 T9 n5 n6 n7 n8 n9)
    (wP : wellP p) (wQ : wellP q) (sE : AllN szN (.ex e)) (sF : AllN szN (.ex f)) (sS : okS' s) (sT : okS' t) :
    Calls Tryd.prog 9 #[.agg #[.int .i64 p.f0, .slice A1 p.f1.length c1, .slice A2 p.f2.length c2, .slice A3 p.f3.length c3], .agg #[.int .i64 q.f0, .slice B1 q.f1.length d1, .slice B2 q.f2.length d2, .slice B3 q.f3.length d3], .agg #[.int .i64 e.f0, .int .i64 e.f1, .int .i64 e.f2, .int .u32 e.f3, .string e.f4, .slice E5 e.f5.length i5], .agg #[.int .i64 f.f0, .int .i64 f.f1, .int .i64 f.f2, .int .u32 f.f3, .string f.f4, .slice F5 f.f5.length k5], .agg #[.int .i64 s.f0, .int .i64 s.f1, .int .i64 s.f2, .int .i64 s.f3, .string s.f4, .slice S5 s.f5.length m5, .slice S6 s.f6.length m6, .slice S7 s.f7.length m7, .slice S8 s.f8.length m8, .slice S9 s.f9.length m9], .agg #[.int .i64 t.f0, .int .i64 t.f1, .int .i64 t.f2, .int .i64 t.f3, .string t.f4, .slice T5 t.f5.length n5, .slice T6 t.f6.length n6, .slice T7 t.f7.length n7, .slice T8 t.f8.length n8, .slice T9 t.f9.length n9], .int .i64 ty] w fun r w' => r = .returned (.bool true) ∧ Below w.heap.size w w' := by
  obtain ⟨b1, hL1⟩ : ∃ b, lightPB p = b := ⟨_, rfl⟩
  obtain ⟨b2, hL2⟩ : ∃ b, lightPB q = b := ⟨_, rfl⟩
  have hS1 := lightP_says p wP
  have hS2 := lightP_says q wQ
  rw [hL1] at hS1
  rw [hL2] at hS2
  obtain ⟨k3, b3, hL3, hS3⟩ := lightExpr_f e sE
  obtain ⟨k4, b4, hL4, hS4⟩ := lightExpr_f f sF
  obtain ⟨b5, hL5⟩ : ∃ b, decide ((0 : Int) ≤ stIs [s, t] 300) = b := ⟨_, rfl⟩
  have hS5 := lightSt_says s t sS sT
  rw [hL5] at hS5
  have HG := Lx.Hd.mk hG
  have HR := Lx.Hd.mk (And.intro hP (And.intro hQ (And.intro hE (And.intro hF (And.intro hS hT)))))
  have HL1 := Lx.Hd.mk hL1
  have HL2 := Lx.Hd.mk hL2
  have HL3 := Lx.Hd.mk hL3
  have HL4 := Lx.Hd.mk hL4
  have HL5 := Lx.Hd.mk hL5
  have HS := Lx.Hd.mk (And.intro hS1 (And.intro hS2 (And.intro hS3 (And.intro hS4 hS5))))
  have HW := Lx.Hd.mk (And.intro wP wQ)
  have HO := Lx.Hd.mk (And.intro sE (And.intro sF (And.intro sS sT)))
  clear hG hP hQ hE hF hS hT hL1 hL2 hL3 hL4 hL5 hS1 hS2 hS3 hS4 hS5 wP wQ sE sF sS sT
  go_enter Tryd.func9, Tryd.ntmps9
  go_upto_region 1 with (fail)
  refine name_world fun W2 hW2 => ?_
  have HB0 : Lx.Hd (Below w.heap.size w W2) := Lx.Hd.mk (by rw [hW2]; exact below_alloc (below_alloc (below_alloc (below_alloc (below_alloc (below_alloc (Below.refl _ _) _) _) _) _) _) _)
  have hb6 := blk6 w (.cells #[.int .i64 p.f0, .slice A1 p.f1.length c1, .slice A2 p.f2.length c2, .slice A3 p.f3.length c3] 46 (0, 0)) (.cells #[.int .i64 q.f0, .slice B1 q.f1.length d1, .slice B2 q.f2.length d2, .slice B3 q.f3.length d3] 46 (0, 0)) (.cells #[.int .i64 e.f0, .int .i64 e.f1, .int .i64 e.f2, .int .u32 e.f3, .string e.f4, .slice E5 e.f5.length i5] 25 (0, 0)) (.cells #[.int .i64 f.f0, .int .i64 f.f1, .int .i64 f.f2, .int .u32 f.f3, .string f.f4, .slice F5 f.f5.length k5] 25 (0, 0)) (.cells #[.int .i64 s.f0, .int .i64 s.f1, .int .i64 s.f2, .int .i64 s.f3, .string s.f4, .slice S5 s.f5.length m5, .slice S6 s.f6.length m6, .slice S7 s.f7.length m7, .slice S8 s.f8.length m8, .slice S9 s.f9.length m9] 38 (0, 0)) (.cells #[.int .i64 t.f0, .int .i64 t.f1, .int .i64 t.f2, .int .i64 t.f3, .string t.f4, .slice T5 t.f5.length n5, .slice T6 t.f6.length n6, .slice T7 t.f7.length n7, .slice T8 t.f8.length n8, .slice T9 t.f9.length n9] 38 (0, 0))
  have hb6' : _ ∧ _ ∧ _ ∧ _ ∧ _ ∧ _ := hb6
  rw [← show W2 = _ from hW2] at hb6'
  obtain ⟨hb1, hb2, hb3, hb4, hb5, hb7⟩ := hb6'
  have BC1 := Lx.Hd.mk (cellsP_of hb1)
  have BC2 := Lx.Hd.mk (cellsP_of hb2)
  have BC3 := Lx.Hd.mk (cells_of hb3)
  have BC4 := Lx.Hd.mk (cells_of hb4)
  have BC5 := Lx.Hd.mk (bkS_of hb5)
  have BC6 := Lx.Hd.mk (bkS_of hb7)
  have HR2 : Lx.Hd (RowsP W2 p A1 A2 A3 c1 c2 c3 ∧ RowsP W2 q B1 B2 B3 d1 d2 d3 ∧ RowsE W2 e E5 i5 ∧ RowsE W2 f F5 k5 ∧ RowsS W2 s S5 S6 S7 S8 S9 m5 m6 m7 m8 m9 ∧ RowsS W2 t T5 T6 T7 T8 T9 n5 n6 n7 n8 n9) := Lx.Hd.mk ⟨RowsP.below HR.out.1 HB0.out, RowsP.below HR.out.2.1 HB0.out, RowsE.below HR.out.2.2.1 HB0.out, RowsE.below HR.out.2.2.2.1 HB0.out, RowsS.below HR.out.2.2.2.2.1 HB0.out, RowsS.below HR.out.2.2.2.2.2 HB0.out⟩
  have HG2 : Lx.Hd (Keys W2) := Lx.Hd.mk (Keys.below HG.out HB0.out)
  have HB : Lx.Hd (Below W2.heap.size W2 W2) := Lx.Hd.mk (Below.refl _ _)
  clear hW2 hb1 hb2 hb3 hb4 hb5 hb6 hb7 HR HG
  generalize w.heap.size + 1 + 1 + 1 + 1 + 1 = x6 at BC6 ⊢
  generalize w.heap.size + 1 + 1 + 1 + 1 = x5 at BC5 ⊢
  generalize w.heap.size + 1 + 1 + 1 = x4 at BC4 ⊢
  generalize w.heap.size + 1 + 1 = x3 at BC3 ⊢
  generalize w.heap.size + 1 = x2 at BC2 ⊢
  generalize w.heap.size = x1 at BC1 ⊢
  obtain ⟨pp0, pp1, pp2, pp3⟩ := BC1.out _ HB.out
  obtain ⟨pq0, pq1, pq2, pq3⟩ := BC2.out _ HB.out
  obtain ⟨pe0, pe1, pe2, pe3, pe4, pe5⟩ := BC3.out _ HB.out
  obtain ⟨pf0, pf1, pf2, pf3, pf4, pf5⟩ := BC4.out _ HB.out
  obtain ⟨ps0, ps1, ps2, ps3, ps4, ps5, ps6, ps7, ps8, ps9⟩ := BC5.out _ HB.out
  obtain ⟨pt0, pt1, pt2, pt3, pt4, pt5, pt6, pt7, pt8, pt9⟩ := BC6.out _ HB.out
  cases b1 with
  | false =>
      go_wp2_with (first | (go_at_call 14; (with_reducible refine (lives_any _ ?s1).mono ?_); (case s1 => exact Keys.below HG2.out HB.out); rintro r W3 ⟨rfl, hb⟩; replace HB := bst HB hb; clear hb; clear pp0 pp1 pp2 pp3 pq0 pq1 pq2 pq3 pe0 pe1 pe2 pe3 pe4 pe5 pf0 pf1 pf2 pf3 pf4 pf5 ps0 ps1 ps2 ps3 ps4 ps5 ps6 ps7 ps8 ps9 pt0 pt1 pt2 pt3 pt4 pt5 pt6 pt7 pt8 pt9; obtain ⟨pp0, pp1, pp2, pp3⟩ := BC1.out _ HB.out; obtain ⟨pq0, pq1, pq2, pq3⟩ := BC2.out _ HB.out; obtain ⟨pe0, pe1, pe2, pe3, pe4, pe5⟩ := BC3.out _ HB.out; obtain ⟨pf0, pf1, pf2, pf3, pf4, pf5⟩ := BC4.out _ HB.out; obtain ⟨ps0, ps1, ps2, ps3, ps4, ps5, ps6, ps7, ps8, ps9⟩ := BC5.out _ HB.out; obtain ⟨pt0, pt1, pt2, pt3, pt4, pt5, pt6, pt7, pt8, pt9⟩ := BC6.out _ HB.out) | (go_at_call 32; (with_reducible refine (lightP_any p HW.out.1 A1 A2 A3 c1 c2 c3 _ ?s1).mono ?_); (case s1 => exact (RowsP.below HR2.out.1 HB.out)); rw [HL1.out]; rintro r W3 ⟨rfl, hb⟩; replace HB := bst HB hb; clear hb; clear pp0 pp1 pp2 pp3 pq0 pq1 pq2 pq3 pe0 pe1 pe2 pe3 pe4 pe5 pf0 pf1 pf2 pf3 pf4 pf5 ps0 ps1 ps2 ps3 ps4 ps5 ps6 ps7 ps8 ps9 pt0 pt1 pt2 pt3 pt4 pt5 pt6 pt7 pt8 pt9; obtain ⟨pp0, pp1, pp2, pp3⟩ := BC1.out _ HB.out; obtain ⟨pq0, pq1, pq2, pq3⟩ := BC2.out _ HB.out; obtain ⟨pe0, pe1, pe2, pe3, pe4, pe5⟩ := BC3.out _ HB.out; obtain ⟨pf0, pf1, pf2, pf3, pf4, pf5⟩ := BC4.out _ HB.out; obtain ⟨ps0, ps1, ps2, ps3, ps4, ps5, ps6, ps7, ps8, ps9⟩ := BC5.out _ HB.out; obtain ⟨pt0, pt1, pt2, pt3, pt4, pt5, pt6, pt7, pt8, pt9⟩ := BC6.out _ HB.out) | fail)
      go_ret
      exact ⟨rfl, bto HB0 HB⟩
  | true =>
  cases b2 with
  | false =>
      go_wp2_with (first | (go_at_call 14; (with_reducible refine (lives_any _ ?s1).mono ?_); (case s1 => exact Keys.below HG2.out HB.out); rintro r W3 ⟨rfl, hb⟩; replace HB := bst HB hb; clear hb; clear pp0 pp1 pp2 pp3 pq0 pq1 pq2 pq3 pe0 pe1 pe2 pe3 pe4 pe5 pf0 pf1 pf2 pf3 pf4 pf5 ps0 ps1 ps2 ps3 ps4 ps5 ps6 ps7 ps8 ps9 pt0 pt1 pt2 pt3 pt4 pt5 pt6 pt7 pt8 pt9; obtain ⟨pp0, pp1, pp2, pp3⟩ := BC1.out _ HB.out; obtain ⟨pq0, pq1, pq2, pq3⟩ := BC2.out _ HB.out; obtain ⟨pe0, pe1, pe2, pe3, pe4, pe5⟩ := BC3.out _ HB.out; obtain ⟨pf0, pf1, pf2, pf3, pf4, pf5⟩ := BC4.out _ HB.out; obtain ⟨ps0, ps1, ps2, ps3, ps4, ps5, ps6, ps7, ps8, ps9⟩ := BC5.out _ HB.out; obtain ⟨pt0, pt1, pt2, pt3, pt4, pt5, pt6, pt7, pt8, pt9⟩ := BC6.out _ HB.out) | (go_at_call 32; (with_reducible refine (lightP_any p HW.out.1 A1 A2 A3 c1 c2 c3 _ ?s1).mono ?_); (case s1 => exact (RowsP.below HR2.out.1 HB.out)); rw [HL1.out]; rintro r W3 ⟨rfl, hb⟩; replace HB := bst HB hb; clear hb; clear pp0 pp1 pp2 pp3 pq0 pq1 pq2 pq3 pe0 pe1 pe2 pe3 pe4 pe5 pf0 pf1 pf2 pf3 pf4 pf5 ps0 ps1 ps2 ps3 ps4 ps5 ps6 ps7 ps8 ps9 pt0 pt1 pt2 pt3 pt4 pt5 pt6 pt7 pt8 pt9; obtain ⟨pp0, pp1, pp2, pp3⟩ := BC1.out _ HB.out; obtain ⟨pq0, pq1, pq2, pq3⟩ := BC2.out _ HB.out; obtain ⟨pe0, pe1, pe2, pe3, pe4, pe5⟩ := BC3.out _ HB.out; obtain ⟨pf0, pf1, pf2, pf3, pf4, pf5⟩ := BC4.out _ HB.out; obtain ⟨ps0, ps1, ps2, ps3, ps4, ps5, ps6, ps7, ps8, ps9⟩ := BC5.out _ HB.out; obtain ⟨pt0, pt1, pt2, pt3, pt4, pt5, pt6, pt7, pt8, pt9⟩ := BC6.out _ HB.out) | (go_at_call 32; (with_reducible refine (lightP_any q HW.out.2 B1 B2 B3 d1 d2 d3 _ ?s1).mono ?_); (case s1 => exact (RowsP.below HR2.out.2.1 HB.out)); rw [HL2.out]; rintro r W3 ⟨rfl, hb⟩; replace HB := bst HB hb; clear hb; clear pp0 pp1 pp2 pp3 pq0 pq1 pq2 pq3 pe0 pe1 pe2 pe3 pe4 pe5 pf0 pf1 pf2 pf3 pf4 pf5 ps0 ps1 ps2 ps3 ps4 ps5 ps6 ps7 ps8 ps9 pt0 pt1 pt2 pt3 pt4 pt5 pt6 pt7 pt8 pt9; obtain ⟨pp0, pp1, pp2, pp3⟩ := BC1.out _ HB.out; obtain ⟨pq0, pq1, pq2, pq3⟩ := BC2.out _ HB.out; obtain ⟨pe0, pe1, pe2, pe3, pe4, pe5⟩ := BC3.out _ HB.out; obtain ⟨pf0, pf1, pf2, pf3, pf4, pf5⟩ := BC4.out _ HB.out; obtain ⟨ps0, ps1, ps2, ps3, ps4, ps5, ps6, ps7, ps8, ps9⟩ := BC5.out _ HB.out; obtain ⟨pt0, pt1, pt2, pt3, pt4, pt5, pt6, pt7, pt8, pt9⟩ := BC6.out _ HB.out) | fail)
      go_ret
      exact ⟨rfl, bto HB0 HB⟩
  | true =>
  cases b3 with
  | false =>
      go_wp2_with (first | (go_at_call 14; (with_reducible refine (lives_any _ ?s1).mono ?_); (case s1 => exact Keys.below HG2.out HB.out); rintro r W3 ⟨rfl, hb⟩; replace HB := bst HB hb; clear hb; clear pp0 pp1 pp2 pp3 pq0 pq1 pq2 pq3 pe0 pe1 pe2 pe3 pe4 pe5 pf0 pf1 pf2 pf3 pf4 pf5 ps0 ps1 ps2 ps3 ps4 ps5 ps6 ps7 ps8 ps9 pt0 pt1 pt2 pt3 pt4 pt5 pt6 pt7 pt8 pt9; obtain ⟨pp0, pp1, pp2, pp3⟩ := BC1.out _ HB.out; obtain ⟨pq0, pq1, pq2, pq3⟩ := BC2.out _ HB.out; obtain ⟨pe0, pe1, pe2, pe3, pe4, pe5⟩ := BC3.out _ HB.out; obtain ⟨pf0, pf1, pf2, pf3, pf4, pf5⟩ := BC4.out _ HB.out; obtain ⟨ps0, ps1, ps2, ps3, ps4, ps5, ps6, ps7, ps8, ps9⟩ := BC5.out _ HB.out; obtain ⟨pt0, pt1, pt2, pt3, pt4, pt5, pt6, pt7, pt8, pt9⟩ := BC6.out _ HB.out) | (go_at_call 32; (with_reducible refine (lightP_any p HW.out.1 A1 A2 A3 c1 c2 c3 _ ?s1).mono ?_); (case s1 => exact (RowsP.below HR2.out.1 HB.out)); rw [HL1.out]; rintro r W3 ⟨rfl, hb⟩; replace HB := bst HB hb; clear hb; clear pp0 pp1 pp2 pp3 pq0 pq1 pq2 pq3 pe0 pe1 pe2 pe3 pe4 pe5 pf0 pf1 pf2 pf3 pf4 pf5 ps0 ps1 ps2 ps3 ps4 ps5 ps6 ps7 ps8 ps9 pt0 pt1 pt2 pt3 pt4 pt5 pt6 pt7 pt8 pt9; obtain ⟨pp0, pp1, pp2, pp3⟩ := BC1.out _ HB.out; obtain ⟨pq0, pq1, pq2, pq3⟩ := BC2.out _ HB.out; obtain ⟨pe0, pe1, pe2, pe3, pe4, pe5⟩ := BC3.out _ HB.out; obtain ⟨pf0, pf1, pf2, pf3, pf4, pf5⟩ := BC4.out _ HB.out; obtain ⟨ps0, ps1, ps2, ps3, ps4, ps5, ps6, ps7, ps8, ps9⟩ := BC5.out _ HB.out; obtain ⟨pt0, pt1, pt2, pt3, pt4, pt5, pt6, pt7, pt8, pt9⟩ := BC6.out _ HB.out) | (go_at_call 32; (with_reducible refine (lightP_any q HW.out.2 B1 B2 B3 d1 d2 d3 _ ?s1).mono ?_); (case s1 => exact (RowsP.below HR2.out.2.1 HB.out)); rw [HL2.out]; rintro r W3 ⟨rfl, hb⟩; replace HB := bst HB hb; clear hb; clear pp0 pp1 pp2 pp3 pq0 pq1 pq2 pq3 pe0 pe1 pe2 pe3 pe4 pe5 pf0 pf1 pf2 pf3 pf4 pf5 ps0 ps1 ps2 ps3 ps4 ps5 ps6 ps7 ps8 ps9 pt0 pt1 pt2 pt3 pt4 pt5 pt6 pt7 pt8 pt9; obtain ⟨pp0, pp1, pp2, pp3⟩ := BC1.out _ HB.out; obtain ⟨pq0, pq1, pq2, pq3⟩ := BC2.out _ HB.out; obtain ⟨pe0, pe1, pe2, pe3, pe4, pe5⟩ := BC3.out _ HB.out; obtain ⟨pf0, pf1, pf2, pf3, pf4, pf5⟩ := BC4.out _ HB.out; obtain ⟨ps0, ps1, ps2, ps3, ps4, ps5, ps6, ps7, ps8, ps9⟩ := BC5.out _ HB.out; obtain ⟨pt0, pt1, pt2, pt3, pt4, pt5, pt6, pt7, pt8, pt9⟩ := BC6.out _ HB.out) | (go_at_call 15; (with_reducible refine (light_calls e k3 _ HL3.out E5 i5 _ ?s1 ?s2).mono ?_); (case s1 => exact HR2.out.2.2.1.2); (case s2 => exact (RowsE.below HR2.out.2.2.1 HB.out).1); rintro r W3 ⟨rfl, hb⟩; replace HB := bst HB hb; clear hb; clear pp0 pp1 pp2 pp3 pq0 pq1 pq2 pq3 pe0 pe1 pe2 pe3 pe4 pe5 pf0 pf1 pf2 pf3 pf4 pf5 ps0 ps1 ps2 ps3 ps4 ps5 ps6 ps7 ps8 ps9 pt0 pt1 pt2 pt3 pt4 pt5 pt6 pt7 pt8 pt9; obtain ⟨pp0, pp1, pp2, pp3⟩ := BC1.out _ HB.out; obtain ⟨pq0, pq1, pq2, pq3⟩ := BC2.out _ HB.out; obtain ⟨pe0, pe1, pe2, pe3, pe4, pe5⟩ := BC3.out _ HB.out; obtain ⟨pf0, pf1, pf2, pf3, pf4, pf5⟩ := BC4.out _ HB.out; obtain ⟨ps0, ps1, ps2, ps3, ps4, ps5, ps6, ps7, ps8, ps9⟩ := BC5.out _ HB.out; obtain ⟨pt0, pt1, pt2, pt3, pt4, pt5, pt6, pt7, pt8, pt9⟩ := BC6.out _ HB.out) | fail)
      go_ret
      exact ⟨rfl, bto HB0 HB⟩
  | true =>
  cases b4 with
  | false =>
      go_wp2_with (first | (go_at_call 14; (with_reducible refine (lives_any _ ?s1).mono ?_); (case s1 => exact Keys.below HG2.out HB.out); rintro r W3 ⟨rfl, hb⟩; replace HB := bst HB hb; clear hb; clear pp0 pp1 pp2 pp3 pq0 pq1 pq2 pq3 pe0 pe1 pe2 pe3 pe4 pe5 pf0 pf1 pf2 pf3 pf4 pf5 ps0 ps1 ps2 ps3 ps4 ps5 ps6 ps7 ps8 ps9 pt0 pt1 pt2 pt3 pt4 pt5 pt6 pt7 pt8 pt9; obtain ⟨pp0, pp1, pp2, pp3⟩ := BC1.out _ HB.out; obtain ⟨pq0, pq1, pq2, pq3⟩ := BC2.out _ HB.out; obtain ⟨pe0, pe1, pe2, pe3, pe4, pe5⟩ := BC3.out _ HB.out; obtain ⟨pf0, pf1, pf2, pf3, pf4, pf5⟩ := BC4.out _ HB.out; obtain ⟨ps0, ps1, ps2, ps3, ps4, ps5, ps6, ps7, ps8, ps9⟩ := BC5.out _ HB.out; obtain ⟨pt0, pt1, pt2, pt3, pt4, pt5, pt6, pt7, pt8, pt9⟩ := BC6.out _ HB.out) | (go_at_call 32; (with_reducible refine (lightP_any p HW.out.1 A1 A2 A3 c1 c2 c3 _ ?s1).mono ?_); (case s1 => exact (RowsP.below HR2.out.1 HB.out)); rw [HL1.out]; rintro r W3 ⟨rfl, hb⟩; replace HB := bst HB hb; clear hb; clear pp0 pp1 pp2 pp3 pq0 pq1 pq2 pq3 pe0 pe1 pe2 pe3 pe4 pe5 pf0 pf1 pf2 pf3 pf4 pf5 ps0 ps1 ps2 ps3 ps4 ps5 ps6 ps7 ps8 ps9 pt0 pt1 pt2 pt3 pt4 pt5 pt6 pt7 pt8 pt9; obtain ⟨pp0, pp1, pp2, pp3⟩ := BC1.out _ HB.out; obtain ⟨pq0, pq1, pq2, pq3⟩ := BC2.out _ HB.out; obtain ⟨pe0, pe1, pe2, pe3, pe4, pe5⟩ := BC3.out _ HB.out; obtain ⟨pf0, pf1, pf2, pf3, pf4, pf5⟩ := BC4.out _ HB.out; obtain ⟨ps0, ps1, ps2, ps3, ps4, ps5, ps6, ps7, ps8, ps9⟩ := BC5.out _ HB.out; obtain ⟨pt0, pt1, pt2, pt3, pt4, pt5, pt6, pt7, pt8, pt9⟩ := BC6.out _ HB.out) | (go_at_call 32; (with_reducible refine (lightP_any q HW.out.2 B1 B2 B3 d1 d2 d3 _ ?s1).mono ?_); (case s1 => exact (RowsP.below HR2.out.2.1 HB.out)); rw [HL2.out]; rintro r W3 ⟨rfl, hb⟩; replace HB := bst HB hb; clear hb; clear pp0 pp1 pp2 pp3 pq0 pq1 pq2 pq3 pe0 pe1 pe2 pe3 pe4 pe5 pf0 pf1 pf2 pf3 pf4 pf5 ps0 ps1 ps2 ps3 ps4 ps5 ps6 ps7 ps8 ps9 pt0 pt1 pt2 pt3 pt4 pt5 pt6 pt7 pt8 pt9; obtain ⟨pp0, pp1, pp2, pp3⟩ := BC1.out _ HB.out; obtain ⟨pq0, pq1, pq2, pq3⟩ := BC2.out _ HB.out; obtain ⟨pe0, pe1, pe2, pe3, pe4, pe5⟩ := BC3.out _ HB.out; obtain ⟨pf0, pf1, pf2, pf3, pf4, pf5⟩ := BC4.out _ HB.out; obtain ⟨ps0, ps1, ps2, ps3, ps4, ps5, ps6, ps7, ps8, ps9⟩ := BC5.out _ HB.out; obtain ⟨pt0, pt1, pt2, pt3, pt4, pt5, pt6, pt7, pt8, pt9⟩ := BC6.out _ HB.out) | (go_at_call 15; (with_reducible refine (light_calls e k3 _ HL3.out E5 i5 _ ?s1 ?s2).mono ?_); (case s1 => exact HR2.out.2.2.1.2); (case s2 => exact (RowsE.below HR2.out.2.2.1 HB.out).1); rintro r W3 ⟨rfl, hb⟩; replace HB := bst HB hb; clear hb; clear pp0 pp1 pp2 pp3 pq0 pq1 pq2 pq3 pe0 pe1 pe2 pe3 pe4 pe5 pf0 pf1 pf2 pf3 pf4 pf5 ps0 ps1 ps2 ps3 ps4 ps5 ps6 ps7 ps8 ps9 pt0 pt1 pt2 pt3 pt4 pt5 pt6 pt7 pt8 pt9; obtain ⟨pp0, pp1, pp2, pp3⟩ := BC1.out _ HB.out; obtain ⟨pq0, pq1, pq2, pq3⟩ := BC2.out _ HB.out; obtain ⟨pe0, pe1, pe2, pe3, pe4, pe5⟩ := BC3.out _ HB.out; obtain ⟨pf0, pf1, pf2, pf3, pf4, pf5⟩ := BC4.out _ HB.out; obtain ⟨ps0, ps1, ps2, ps3, ps4, ps5, ps6, ps7, ps8, ps9⟩ := BC5.out _ HB.out; obtain ⟨pt0, pt1, pt2, pt3, pt4, pt5, pt6, pt7, pt8, pt9⟩ := BC6.out _ HB.out) | (go_at_call 15; (with_reducible refine (light_calls f k4 _ HL4.out F5 k5 _ ?s1 ?s2).mono ?_); (case s1 => exact HR2.out.2.2.2.1.2); (case s2 => exact (RowsE.below HR2.out.2.2.2.1 HB.out).1); rintro r W3 ⟨rfl, hb⟩; replace HB := bst HB hb; clear hb; clear pp0 pp1 pp2 pp3 pq0 pq1 pq2 pq3 pe0 pe1 pe2 pe3 pe4 pe5 pf0 pf1 pf2 pf3 pf4 pf5 ps0 ps1 ps2 ps3 ps4 ps5 ps6 ps7 ps8 ps9 pt0 pt1 pt2 pt3 pt4 pt5 pt6 pt7 pt8 pt9; obtain ⟨pp0, pp1, pp2, pp3⟩ := BC1.out _ HB.out; obtain ⟨pq0, pq1, pq2, pq3⟩ := BC2.out _ HB.out; obtain ⟨pe0, pe1, pe2, pe3, pe4, pe5⟩ := BC3.out _ HB.out; obtain ⟨pf0, pf1, pf2, pf3, pf4, pf5⟩ := BC4.out _ HB.out; obtain ⟨ps0, ps1, ps2, ps3, ps4, ps5, ps6, ps7, ps8, ps9⟩ := BC5.out _ HB.out; obtain ⟨pt0, pt1, pt2, pt3, pt4, pt5, pt6, pt7, pt8, pt9⟩ := BC6.out _ HB.out) | fail)
      go_ret
      exact ⟨rfl, bto HB0 HB⟩
  | true =>
  cases b5 with
  | false =>
      go_wp2_with (first | (go_at_call 14; (with_reducible refine (lives_any _ ?s1).mono ?_); (case s1 => exact Keys.below HG2.out HB.out); rintro r W3 ⟨rfl, hb⟩; replace HB := bst HB hb; clear hb; clear pp0 pp1 pp2 pp3 pq0 pq1 pq2 pq3 pe0 pe1 pe2 pe3 pe4 pe5 pf0 pf1 pf2 pf3 pf4 pf5 ps0 ps1 ps2 ps3 ps4 ps5 ps6 ps7 ps8 ps9 pt0 pt1 pt2 pt3 pt4 pt5 pt6 pt7 pt8 pt9; obtain ⟨pp0, pp1, pp2, pp3⟩ := BC1.out _ HB.out; obtain ⟨pq0, pq1, pq2, pq3⟩ := BC2.out _ HB.out; obtain ⟨pe0, pe1, pe2, pe3, pe4, pe5⟩ := BC3.out _ HB.out; obtain ⟨pf0, pf1, pf2, pf3, pf4, pf5⟩ := BC4.out _ HB.out; obtain ⟨ps0, ps1, ps2, ps3, ps4, ps5, ps6, ps7, ps8, ps9⟩ := BC5.out _ HB.out; obtain ⟨pt0, pt1, pt2, pt3, pt4, pt5, pt6, pt7, pt8, pt9⟩ := BC6.out _ HB.out) | (go_at_call 32; (with_reducible refine (lightP_any p HW.out.1 A1 A2 A3 c1 c2 c3 _ ?s1).mono ?_); (case s1 => exact (RowsP.below HR2.out.1 HB.out)); rw [HL1.out]; rintro r W3 ⟨rfl, hb⟩; replace HB := bst HB hb; clear hb; clear pp0 pp1 pp2 pp3 pq0 pq1 pq2 pq3 pe0 pe1 pe2 pe3 pe4 pe5 pf0 pf1 pf2 pf3 pf4 pf5 ps0 ps1 ps2 ps3 ps4 ps5 ps6 ps7 ps8 ps9 pt0 pt1 pt2 pt3 pt4 pt5 pt6 pt7 pt8 pt9; obtain ⟨pp0, pp1, pp2, pp3⟩ := BC1.out _ HB.out; obtain ⟨pq0, pq1, pq2, pq3⟩ := BC2.out _ HB.out; obtain ⟨pe0, pe1, pe2, pe3, pe4, pe5⟩ := BC3.out _ HB.out; obtain ⟨pf0, pf1, pf2, pf3, pf4, pf5⟩ := BC4.out _ HB.out; obtain ⟨ps0, ps1, ps2, ps3, ps4, ps5, ps6, ps7, ps8, ps9⟩ := BC5.out _ HB.out; obtain ⟨pt0, pt1, pt2, pt3, pt4, pt5, pt6, pt7, pt8, pt9⟩ := BC6.out _ HB.out) | (go_at_call 32; (with_reducible refine (lightP_any q HW.out.2 B1 B2 B3 d1 d2 d3 _ ?s1).mono ?_); (case s1 => exact (RowsP.below HR2.out.2.1 HB.out)); rw [HL2.out]; rintro r W3 ⟨rfl, hb⟩; replace HB := bst HB hb; clear hb; clear pp0 pp1 pp2 pp3 pq0 pq1 pq2 pq3 pe0 pe1 pe2 pe3 pe4 pe5 pf0 pf1 pf2 pf3 pf4 pf5 ps0 ps1 ps2 ps3 ps4 ps5 ps6 ps7 ps8 ps9 pt0 pt1 pt2 pt3 pt4 pt5 pt6 pt7 pt8 pt9; obtain ⟨pp0, pp1, pp2, pp3⟩ := BC1.out _ HB.out; obtain ⟨pq0, pq1, pq2, pq3⟩ := BC2.out _ HB.out; obtain ⟨pe0, pe1, pe2, pe3, pe4, pe5⟩ := BC3.out _ HB.out; obtain ⟨pf0, pf1, pf2, pf3, pf4, pf5⟩ := BC4.out _ HB.out; obtain ⟨ps0, ps1, ps2, ps3, ps4, ps5, ps6, ps7, ps8, ps9⟩ := BC5.out _ HB.out; obtain ⟨pt0, pt1, pt2, pt3, pt4, pt5, pt6, pt7, pt8, pt9⟩ := BC6.out _ HB.out) | (go_at_call 15; (with_reducible refine (light_calls e k3 _ HL3.out E5 i5 _ ?s1 ?s2).mono ?_); (case s1 => exact HR2.out.2.2.1.2); (case s2 => exact (RowsE.below HR2.out.2.2.1 HB.out).1); rintro r W3 ⟨rfl, hb⟩; replace HB := bst HB hb; clear hb; clear pp0 pp1 pp2 pp3 pq0 pq1 pq2 pq3 pe0 pe1 pe2 pe3 pe4 pe5 pf0 pf1 pf2 pf3 pf4 pf5 ps0 ps1 ps2 ps3 ps4 ps5 ps6 ps7 ps8 ps9 pt0 pt1 pt2 pt3 pt4 pt5 pt6 pt7 pt8 pt9; obtain ⟨pp0, pp1, pp2, pp3⟩ := BC1.out _ HB.out; obtain ⟨pq0, pq1, pq2, pq3⟩ := BC2.out _ HB.out; obtain ⟨pe0, pe1, pe2, pe3, pe4, pe5⟩ := BC3.out _ HB.out; obtain ⟨pf0, pf1, pf2, pf3, pf4, pf5⟩ := BC4.out _ HB.out; obtain ⟨ps0, ps1, ps2, ps3, ps4, ps5, ps6, ps7, ps8, ps9⟩ := BC5.out _ HB.out; obtain ⟨pt0, pt1, pt2, pt3, pt4, pt5, pt6, pt7, pt8, pt9⟩ := BC6.out _ HB.out) | (go_at_call 15; (with_reducible refine (light_calls f k4 _ HL4.out F5 k5 _ ?s1 ?s2).mono ?_); (case s1 => exact HR2.out.2.2.2.1.2); (case s2 => exact (RowsE.below HR2.out.2.2.2.1 HB.out).1); rintro r W3 ⟨rfl, hb⟩; replace HB := bst HB hb; clear hb; clear pp0 pp1 pp2 pp3 pq0 pq1 pq2 pq3 pe0 pe1 pe2 pe3 pe4 pe5 pf0 pf1 pf2 pf3 pf4 pf5 ps0 ps1 ps2 ps3 ps4 ps5 ps6 ps7 ps8 ps9 pt0 pt1 pt2 pt3 pt4 pt5 pt6 pt7 pt8 pt9; obtain ⟨pp0, pp1, pp2, pp3⟩ := BC1.out _ HB.out; obtain ⟨pq0, pq1, pq2, pq3⟩ := BC2.out _ HB.out; obtain ⟨pe0, pe1, pe2, pe3, pe4, pe5⟩ := BC3.out _ HB.out; obtain ⟨pf0, pf1, pf2, pf3, pf4, pf5⟩ := BC4.out _ HB.out; obtain ⟨ps0, ps1, ps2, ps3, ps4, ps5, ps6, ps7, ps8, ps9⟩ := BC5.out _ HB.out; obtain ⟨pt0, pt1, pt2, pt3, pt4, pt5, pt6, pt7, pt8, pt9⟩ := BC6.out _ HB.out) | (go_at_call 23; (with_reducible refine (lightSt_2 s t HO.out.2.2.1 HO.out.2.2.2 _ _ _ HL5.out ?s1).mono ?_); (case s1 => exact rowSS s t S5 S6 S7 S8 S9 m5 m6 m7 m8 m9 T5 T6 T7 T8 T9 n5 n6 n7 n8 n9 _ (RowsS.below HR2.out.2.2.2.2.1 HB.out) (RowsS.below HR2.out.2.2.2.2.2 HB.out)); rintro r W3 ⟨rfl, hb⟩; have hn_ := Lx.Hd.mk (below_step (below_alloc HB.out _) hb); clear hb HB; have HB := hn_; clear hn_; clear pp0 pp1 pp2 pp3 pq0 pq1 pq2 pq3 pe0 pe1 pe2 pe3 pe4 pe5 pf0 pf1 pf2 pf3 pf4 pf5 ps0 ps1 ps2 ps3 ps4 ps5 ps6 ps7 ps8 ps9 pt0 pt1 pt2 pt3 pt4 pt5 pt6 pt7 pt8 pt9; obtain ⟨pp0, pp1, pp2, pp3⟩ := BC1.out _ HB.out; obtain ⟨pq0, pq1, pq2, pq3⟩ := BC2.out _ HB.out; obtain ⟨pe0, pe1, pe2, pe3, pe4, pe5⟩ := BC3.out _ HB.out; obtain ⟨pf0, pf1, pf2, pf3, pf4, pf5⟩ := BC4.out _ HB.out; obtain ⟨ps0, ps1, ps2, ps3, ps4, ps5, ps6, ps7, ps8, ps9⟩ := BC5.out _ HB.out; obtain ⟨pt0, pt1, pt2, pt3, pt4, pt5, pt6, pt7, pt8, pt9⟩ := BC6.out _ HB.out) | fail)
      go_ret
      exact ⟨rfl, bto HB0 HB⟩
  | true =>
  obtain ⟨hs1, g1, g2, g3⟩ := HS.out.1 rfl
  obtain ⟨hs2, g4, g5, g6⟩ := HS.out.2.1 rfl
  have hs3 : sizeE e ≤ 300 := HS.out.2.2.1 rfl
  have hs4 : sizeE f ≤ 300 := HS.out.2.2.2.1 rfl
  obtain ⟨hs5, hs6⟩ := HS.out.2.2.2.2 rfl
  have fp := fit_light p HW.out.1 (by omega)
  have fe : fitB (.ex e) = true := fit_of (show sizeE e < _ by omega) (show deepE e < _ by have := deep_le_E e; omega) HO.out.1
  have fs : fitB (.st s) = true := fit_of (show sizeS s < _ by omega) (show deepS s < _ by have := deep_le_S s; omega) HO.out.2.2.1.1
  have hz := (fitP_parts fp).2.1
  obtain ⟨zp, ezp⟩ : ∃ n : Nat, sizes (nodes p.f3) = n := ⟨_, rfl⟩
  obtain ⟨dp, edp⟩ : ∃ n : Nat, deeps (nodes p.f3) = n := ⟨_, rfl⟩
  obtain ⟨np, enp⟩ : ∃ n : Int, checkP p = n := ⟨_, rfl⟩
  obtain ⟨ne, ene⟩ : ∃ n : Int, checkN [.ex e] = n := ⟨_, rfl⟩
  obtain ⟨ns, ens⟩ : ∃ n : Int, checkN [.st s] = n := ⟨_, rfl⟩
  obtain ⟨sm, esm⟩ : ∃ b : Bool, sameP p q = b := ⟨_, rfl⟩
  obtain ⟨se, ese⟩ : ∃ b : Bool, sameE e f = b := ⟨_, rfl⟩
  obtain ⟨st, est⟩ : ∃ b : Bool, sameS s t = b := ⟨_, rfl⟩
  obtain ⟨wd, ewd⟩ : ∃ n : Int, widthI ty = n := ⟨_, rfl⟩
  obtain ⟨Ne, hNe⟩ : ∃ l, namesE e = l := ⟨_, rfl⟩
  have ln1 : Ne.length ≤ 300 := by rw [← hNe]; have := namesE_len e; omega
  have KC1 : Lx.Hd (∀ W', Below W2.heap.size W2 W' → Calls Tryd.prog 34 #[.agg #[.int .i64 p.f0, .slice A1 p.f1.length c1, .slice A2 p.f2.length c2, .slice A3 p.f3.length c3]] W' fun r W'' => r = .returned (.int .i64 np) ∧ Below W'.heap.size W' W'') := Lx.Hd.mk fun W' hb => by rw [← enp]; exact check_prog p A1 A2 A3 c1 c2 c3 W' (Keys.below HG2.out hb) (RowsP.below HR2.out.1 hb) fp
  have KC2 : Lx.Hd (∀ W', Below W2.heap.size W2 W' → Calls Tryd.prog 39 #[.agg #[.int .i64 p.f0, .slice A1 p.f1.length c1, .slice A2 p.f2.length c2, .slice A3 p.f3.length c3]] W' fun r W'' => r = .returned (.int .i64 np) ∧ Below W'.heap.size W' W'') := Lx.Hd.mk fun W' hb => by rw [← enp]; exact refCheck p fp A1 A2 A3 c1 c2 c3 W' (RowsP.below HR2.out.1 hb)
  have KE1 : Lx.Hd (∀ W', Below W2.heap.size W2 W' → Calls Tryd.prog 16 #[.agg #[.int .i64 e.f0, .int .i64 e.f1, .int .i64 e.f2, .int .u32 e.f3, .string e.f4, .slice E5 e.f5.length i5]] W' fun r W'' => r = .returned (.int .i64 ne) ∧ Below W'.heap.size W' W'') := Lx.Hd.mk fun W' hb => by rw [← ene]; exact check_calls e fe E5 i5 W' (Keys.below HG2.out hb) HR2.out.2.2.1.2 (RowsE.below HR2.out.2.2.1 hb).1
  have KE2 : Lx.Hd (∀ W', Below W2.heap.size W2 W' → Calls Tryd.prog 40 #[.agg #[.int .i64 e.f0, .int .i64 e.f1, .int .i64 e.f2, .int .u32 e.f3, .string e.f4, .slice E5 e.f5.length i5]] W' fun r W'' => r = .returned (.int .i64 ne) ∧ Below W'.heap.size W' W'') := Lx.Hd.mk fun W' hb => by rw [← ene]; exact refCheckExpr e E5 i5 W' (by omega) HO.out.1 (RowsE.below HR2.out.2.2.1 hb)
  have KS1 : Lx.Hd (∀ W', Below W2.heap.size W2 W' → Calls Tryd.prog 22 #[.agg #[.int .i64 s.f0, .int .i64 s.f1, .int .i64 s.f2, .int .i64 s.f3, .string s.f4, .slice S5 s.f5.length m5, .slice S6 s.f6.length m6, .slice S7 s.f7.length m7, .slice S8 s.f8.length m8, .slice S9 s.f9.length m9]] W' fun r W'' => r = .returned (.int .i64 ns) ∧ Below W'.heap.size W' W'') := Lx.Hd.mk fun W' hb => by rw [← ens]; exact checkS_calls s fs S5 S6 S7 S8 S9 m5 m6 m7 m8 m9 W' (Keys.below HG2.out hb) (RowsS.below HR2.out.2.2.2.2.1 hb)
  have KS2 : Lx.Hd (∀ W', Below W2.heap.size W2 W' → Calls Tryd.prog 41 #[.agg #[.int .i64 s.f0, .int .i64 s.f1, .int .i64 s.f2, .int .i64 s.f3, .string s.f4, .slice S5 s.f5.length m5, .slice S6 s.f6.length m6, .slice S7 s.f7.length m7, .slice S8 s.f8.length m8, .slice S9 s.f9.length m9]] W' fun r W'' => r = .returned (.int .i64 ns) ∧ Below W'.heap.size W' W'') := Lx.Hd.mk fun W' hb => by rw [← ens]; exact refCheckStmt s S5 S6 S7 S8 S9 m5 m6 m7 m8 m9 W' (by omega) HO.out.2.2.1.1 (RowsS.below HR2.out.2.2.2.2.1 hb)
  have KZ1 : Lx.Hd (∀ W', Below W2.heap.size W2 W' → Calls Tryd.prog 27 #[.agg #[.int .i64 p.f0, .slice A1 p.f1.length c1, .slice A2 p.f2.length c2, .slice A3 p.f3.length c3]] W' fun r W'' => r = .returned (.int .i64 (zp : Int)) ∧ Below W'.heap.size W' W'') := Lx.Hd.mk fun W' hb => by rw [← ezp]; exact size_prog p.f0 _ _ rfl rfl A3 c3 p.f3 W' (RowsP.below HR2.out.1 hb).2.2.1 (RowsP.below HR2.out.1 hb).2.2.1.2.1 (fitP_parts fp).1 (fitP_parts fp).2.1
  have KZ2 : Lx.Hd (∀ W', Below W2.heap.size W2 W' → Calls Tryd.prog 42 #[.agg #[.int .i64 p.f0, .slice A1 p.f1.length c1, .slice A2 p.f2.length c2, .slice A3 p.f3.length c3]] W' fun r W'' => r = .returned (.int .i64 (zp : Int)) ∧ Below W'.heap.size W' W'') := Lx.Hd.mk fun W' hb => by rw [← ezp]; exact refSize p hz A1 A2 A3 c1 c2 c3 W' (RowsP.below HR2.out.1 hb)
  have KD1 : Lx.Hd (∀ W', Below W2.heap.size W2 W' → Calls Tryd.prog 26 #[.agg #[.int .i64 p.f0, .slice A1 p.f1.length c1, .slice A2 p.f2.length c2, .slice A3 p.f3.length c3]] W' fun r W'' => r = .returned (.int .i64 (dp : Int)) ∧ Below W'.heap.size W' W'') := Lx.Hd.mk fun W' hb => by rw [← edp]; exact deep_fit p.f0 _ _ rfl rfl A3 c3 p.f3 W' (RowsP.below HR2.out.1 hb).2.2.1 (fitP_parts fp).1 (fun x hx => (fit_parts ((fitP_parts fp).2.2.1 x hx)).2.1)
  have KD2 : Lx.Hd (∀ W', Below W2.heap.size W2 W' → Calls Tryd.prog 43 #[.agg #[.int .i64 p.f0, .slice A1 p.f1.length c1, .slice A2 p.f2.length c2, .slice A3 p.f3.length c3]] W' fun r W'' => r = .returned (.int .i64 (dp : Int)) ∧ Below W'.heap.size W' W'') := Lx.Hd.mk fun W' hb => by rw [← edp]; exact refDeep p hz A1 A2 A3 c1 c2 c3 W' (RowsP.below HR2.out.1 hb)
  have KM1 : Lx.Hd (∀ W', Below W2.heap.size W2 W' → Calls Tryd.prog 33 #[.agg #[.int .i64 p.f0, .slice A1 p.f1.length c1, .slice A2 p.f2.length c2, .slice A3 p.f3.length c3], .agg #[.int .i64 q.f0, .slice B1 q.f1.length d1, .slice B2 q.f2.length d2, .slice B3 q.f3.length d3]] W' fun r W'' => r = .returned (.bool sm) ∧ Below W'.heap.size W' W'') := Lx.Hd.mk fun W' hb => by rw [← esm]; exact sameP_any p q A1 A2 A3 c1 c2 c3 B1 B2 B3 d1 d2 d3 W' (RowsP.below HR2.out.1 hb) (RowsP.below HR2.out.2.1 hb)
  have KM2 : Lx.Hd (∀ W', Below W2.heap.size W2 W' → Calls Tryd.prog 44 #[.agg #[.int .i64 p.f0, .slice A1 p.f1.length c1, .slice A2 p.f2.length c2, .slice A3 p.f3.length c3], .agg #[.int .i64 q.f0, .slice B1 q.f1.length d1, .slice B2 q.f2.length d2, .slice B3 q.f3.length d3]] W' fun r W'' => r = .returned (.bool sm) ∧ Below W'.heap.size W' W'') := Lx.Hd.mk fun W' hb => by rw [← esm]; exact refSame p q A1 A2 A3 c1 c2 c3 B1 B2 B3 d1 d2 d3 W' (RowsP.below HR2.out.1 hb) (RowsP.below HR2.out.2.1 hb)
  have KX1 : Lx.Hd (∀ W', Below W2.heap.size W2 W' → Calls Tryd.prog 36 #[.agg #[.int .i64 e.f0, .int .i64 e.f1, .int .i64 e.f2, .int .u32 e.f3, .string e.f4, .slice E5 e.f5.length i5], .agg #[.int .i64 f.f0, .int .i64 f.f1, .int .i64 f.f2, .int .u32 f.f3, .string f.f4, .slice F5 f.f5.length k5]] W' fun r W'' => r = .returned (.bool se) ∧ Below W'.heap.size W' W'') := Lx.Hd.mk fun W' hb => by rw [← ese]; exact sameAt_any (deepE e) e (Nat.le_refl _) f E5 i5 F5 k5 W' (RowsE.below HR2.out.2.2.1 hb) (RowsE.below HR2.out.2.2.2.1 hb)
  have KX2 : Lx.Hd (∀ W', Below W2.heap.size W2 W' → Calls Tryd.prog 45 #[.agg #[.int .i64 e.f0, .int .i64 e.f1, .int .i64 e.f2, .int .u32 e.f3, .string e.f4, .slice E5 e.f5.length i5], .agg #[.int .i64 f.f0, .int .i64 f.f1, .int .i64 f.f2, .int .u32 f.f3, .string f.f4, .slice F5 f.f5.length k5]] W' fun r W'' => r = .returned (.bool se) ∧ Below W'.heap.size W' W'') := Lx.Hd.mk fun W' hb => by rw [← ese]; exact refSameExpr (deepE e) e (Nat.le_refl _) f E5 i5 F5 k5 W' (RowsE.below HR2.out.2.2.1 hb) (RowsE.below HR2.out.2.2.2.1 hb)
  have KT1 : Lx.Hd (∀ W', Below W2.heap.size W2 W' → Calls Tryd.prog 46 #[.agg #[.int .i64 s.f0, .int .i64 s.f1, .int .i64 s.f2, .int .i64 s.f3, .string s.f4, .slice S5 s.f5.length m5, .slice S6 s.f6.length m6, .slice S7 s.f7.length m7, .slice S8 s.f8.length m8, .slice S9 s.f9.length m9], .agg #[.int .i64 t.f0, .int .i64 t.f1, .int .i64 t.f2, .int .i64 t.f3, .string t.f4, .slice T5 t.f5.length n5, .slice T6 t.f6.length n6, .slice T7 t.f7.length n7, .slice T8 t.f8.length n8, .slice T9 t.f9.length n9]] W' fun r W'' => r = .returned (.bool st) ∧ Below W'.heap.size W' W'') := Lx.Hd.mk fun W' hb => by rw [← est]; exact sameAtS_any (deepS s) s (Nat.le_refl _) t S5 S6 S7 S8 S9 m5 m6 m7 m8 m9 T5 T6 T7 T8 T9 n5 n6 n7 n8 n9 W' (RowsS.below HR2.out.2.2.2.2.1 hb) (RowsS.below HR2.out.2.2.2.2.2 hb)
  have KT2 : Lx.Hd (∀ W', Below W2.heap.size W2 W' → Calls Tryd.prog 47 #[.agg #[.int .i64 s.f0, .int .i64 s.f1, .int .i64 s.f2, .int .i64 s.f3, .string s.f4, .slice S5 s.f5.length m5, .slice S6 s.f6.length m6, .slice S7 s.f7.length m7, .slice S8 s.f8.length m8, .slice S9 s.f9.length m9], .agg #[.int .i64 t.f0, .int .i64 t.f1, .int .i64 t.f2, .int .i64 t.f3, .string t.f4, .slice T5 t.f5.length n5, .slice T6 t.f6.length n6, .slice T7 t.f7.length n7, .slice T8 t.f8.length n8, .slice T9 t.f9.length n9]] W' fun r W'' => r = .returned (.bool st) ∧ Below W'.heap.size W' W'') := Lx.Hd.mk fun W' hb => by rw [← est]; exact refSameStmt (deepS s) s (Nat.le_refl _) t S5 S6 S7 S8 S9 m5 m6 m7 m8 m9 T5 T6 T7 T8 T9 n5 n6 n7 n8 n9 W' (RowsS.below HR2.out.2.2.2.2.1 hb) (RowsS.below HR2.out.2.2.2.2.2 hb)
  have KW1 : Lx.Hd (∀ W', Below W2.heap.size W2 W' → Calls Tryd.prog 38 #[.int .i64 ty] W' fun r W'' => r = .returned (.int .i64 wd) ∧ Below W'.heap.size W' W'') := Lx.Hd.mk fun W' hb => by rw [← ewd]; exact (width_any ty W').mono fun r W'' h => ⟨h.1, by rw [h.2]; exact Below.refl _ _⟩
  have KW2 : Lx.Hd (∀ W', Below W2.heap.size W2 W' → Calls Tryd.prog 48 #[.int .i64 ty] W' fun r W'' => r = .returned (.int .i64 wd) ∧ Below W'.heap.size W' W'') := Lx.Hd.mk fun W' hb => by rw [← ewd]; exact refWidth ty W'
  have KN1 : Lx.Hd (∀ W', Below W2.heap.size W2 W' → Calls Tryd.prog 18 #[.agg #[.int .i64 e.f0, .int .i64 e.f1, .int .i64 e.f2, .int .u32 e.f3, .string e.f4, .slice E5 e.f5.length i5]] W' fun r W'' => ∃ v, r = .returned v ∧ Kd.string.R 9 W'' W'.heap.size (fun _ => True) v Ne ∧ Below W'.heap.size W' W'') := Lx.Hd.mk fun W' hb => by rw [← hNe]; exact names_calls e (by omega) E5 i5 W' HR2.out.2.2.1.2 (RowsE.below HR2.out.2.2.1 hb).1
  have KN2 : Lx.Hd (∀ W', Below W2.heap.size W2 W' → Calls Tryd.prog 49 #[.agg #[.int .i64 e.f0, .int .i64 e.f1, .int .i64 e.f2, .int .u32 e.f3, .string e.f4, .slice E5 e.f5.length i5]] W' fun r W'' => ∃ v, r = .returned v ∧ Kd.string.R 9 W'' W'.heap.size (fun _ => True) v Ne ∧ Below W'.heap.size W' W'') := Lx.Hd.mk fun W' hb => by rw [← hNe]; exact refNames e (by omega) E5 i5 W' (RowsE.below HR2.out.2.2.1 hb)
  clear hs1 hs2 hs3 hs4 hs5 hs6 g1 g2 g3 g4 g5 g6 fp fe fs hz ezp edp enp ene ens esm ese est ewd hNe HS
  go_upto_region 5 with (first | (go_at_call 14; (with_reducible refine (lives_any _ ?s1).mono ?_); (case s1 => exact Keys.below HG2.out HB.out); rintro r W3 ⟨rfl, hb⟩; replace HB := bst HB hb; clear hb; clear pp0 pp1 pp2 pp3 pq0 pq1 pq2 pq3 pe0 pe1 pe2 pe3 pe4 pe5 pf0 pf1 pf2 pf3 pf4 pf5 ps0 ps1 ps2 ps3 ps4 ps5 ps6 ps7 ps8 ps9 pt0 pt1 pt2 pt3 pt4 pt5 pt6 pt7 pt8 pt9; obtain ⟨pp0, pp1, pp2, pp3⟩ := BC1.out _ HB.out; obtain ⟨pq0, pq1, pq2, pq3⟩ := BC2.out _ HB.out; obtain ⟨pe0, pe1, pe2, pe3, pe4, pe5⟩ := BC3.out _ HB.out; obtain ⟨pf0, pf1, pf2, pf3, pf4, pf5⟩ := BC4.out _ HB.out; obtain ⟨ps0, ps1, ps2, ps3, ps4, ps5, ps6, ps7, ps8, ps9⟩ := BC5.out _ HB.out; obtain ⟨pt0, pt1, pt2, pt3, pt4, pt5, pt6, pt7, pt8, pt9⟩ := BC6.out _ HB.out) | (go_at_call 32; (with_reducible refine (lightP_any p HW.out.1 A1 A2 A3 c1 c2 c3 _ ?s1).mono ?_); (case s1 => exact (RowsP.below HR2.out.1 HB.out)); rw [HL1.out]; rintro r W3 ⟨rfl, hb⟩; replace HB := bst HB hb; clear hb; clear pp0 pp1 pp2 pp3 pq0 pq1 pq2 pq3 pe0 pe1 pe2 pe3 pe4 pe5 pf0 pf1 pf2 pf3 pf4 pf5 ps0 ps1 ps2 ps3 ps4 ps5 ps6 ps7 ps8 ps9 pt0 pt1 pt2 pt3 pt4 pt5 pt6 pt7 pt8 pt9; obtain ⟨pp0, pp1, pp2, pp3⟩ := BC1.out _ HB.out; obtain ⟨pq0, pq1, pq2, pq3⟩ := BC2.out _ HB.out; obtain ⟨pe0, pe1, pe2, pe3, pe4, pe5⟩ := BC3.out _ HB.out; obtain ⟨pf0, pf1, pf2, pf3, pf4, pf5⟩ := BC4.out _ HB.out; obtain ⟨ps0, ps1, ps2, ps3, ps4, ps5, ps6, ps7, ps8, ps9⟩ := BC5.out _ HB.out; obtain ⟨pt0, pt1, pt2, pt3, pt4, pt5, pt6, pt7, pt8, pt9⟩ := BC6.out _ HB.out) | (go_at_call 32; (with_reducible refine (lightP_any q HW.out.2 B1 B2 B3 d1 d2 d3 _ ?s1).mono ?_); (case s1 => exact (RowsP.below HR2.out.2.1 HB.out)); rw [HL2.out]; rintro r W3 ⟨rfl, hb⟩; replace HB := bst HB hb; clear hb; clear pp0 pp1 pp2 pp3 pq0 pq1 pq2 pq3 pe0 pe1 pe2 pe3 pe4 pe5 pf0 pf1 pf2 pf3 pf4 pf5 ps0 ps1 ps2 ps3 ps4 ps5 ps6 ps7 ps8 ps9 pt0 pt1 pt2 pt3 pt4 pt5 pt6 pt7 pt8 pt9; obtain ⟨pp0, pp1, pp2, pp3⟩ := BC1.out _ HB.out; obtain ⟨pq0, pq1, pq2, pq3⟩ := BC2.out _ HB.out; obtain ⟨pe0, pe1, pe2, pe3, pe4, pe5⟩ := BC3.out _ HB.out; obtain ⟨pf0, pf1, pf2, pf3, pf4, pf5⟩ := BC4.out _ HB.out; obtain ⟨ps0, ps1, ps2, ps3, ps4, ps5, ps6, ps7, ps8, ps9⟩ := BC5.out _ HB.out; obtain ⟨pt0, pt1, pt2, pt3, pt4, pt5, pt6, pt7, pt8, pt9⟩ := BC6.out _ HB.out) | (go_at_call 15; (with_reducible refine (light_calls e k3 _ HL3.out E5 i5 _ ?s1 ?s2).mono ?_); (case s1 => exact HR2.out.2.2.1.2); (case s2 => exact (RowsE.below HR2.out.2.2.1 HB.out).1); rintro r W3 ⟨rfl, hb⟩; replace HB := bst HB hb; clear hb; clear pp0 pp1 pp2 pp3 pq0 pq1 pq2 pq3 pe0 pe1 pe2 pe3 pe4 pe5 pf0 pf1 pf2 pf3 pf4 pf5 ps0 ps1 ps2 ps3 ps4 ps5 ps6 ps7 ps8 ps9 pt0 pt1 pt2 pt3 pt4 pt5 pt6 pt7 pt8 pt9; obtain ⟨pp0, pp1, pp2, pp3⟩ := BC1.out _ HB.out; obtain ⟨pq0, pq1, pq2, pq3⟩ := BC2.out _ HB.out; obtain ⟨pe0, pe1, pe2, pe3, pe4, pe5⟩ := BC3.out _ HB.out; obtain ⟨pf0, pf1, pf2, pf3, pf4, pf5⟩ := BC4.out _ HB.out; obtain ⟨ps0, ps1, ps2, ps3, ps4, ps5, ps6, ps7, ps8, ps9⟩ := BC5.out _ HB.out; obtain ⟨pt0, pt1, pt2, pt3, pt4, pt5, pt6, pt7, pt8, pt9⟩ := BC6.out _ HB.out) | (go_at_call 15; (with_reducible refine (light_calls f k4 _ HL4.out F5 k5 _ ?s1 ?s2).mono ?_); (case s1 => exact HR2.out.2.2.2.1.2); (case s2 => exact (RowsE.below HR2.out.2.2.2.1 HB.out).1); rintro r W3 ⟨rfl, hb⟩; replace HB := bst HB hb; clear hb; clear pp0 pp1 pp2 pp3 pq0 pq1 pq2 pq3 pe0 pe1 pe2 pe3 pe4 pe5 pf0 pf1 pf2 pf3 pf4 pf5 ps0 ps1 ps2 ps3 ps4 ps5 ps6 ps7 ps8 ps9 pt0 pt1 pt2 pt3 pt4 pt5 pt6 pt7 pt8 pt9; obtain ⟨pp0, pp1, pp2, pp3⟩ := BC1.out _ HB.out; obtain ⟨pq0, pq1, pq2, pq3⟩ := BC2.out _ HB.out; obtain ⟨pe0, pe1, pe2, pe3, pe4, pe5⟩ := BC3.out _ HB.out; obtain ⟨pf0, pf1, pf2, pf3, pf4, pf5⟩ := BC4.out _ HB.out; obtain ⟨ps0, ps1, ps2, ps3, ps4, ps5, ps6, ps7, ps8, ps9⟩ := BC5.out _ HB.out; obtain ⟨pt0, pt1, pt2, pt3, pt4, pt5, pt6, pt7, pt8, pt9⟩ := BC6.out _ HB.out) | (go_at_call 23; (with_reducible refine (lightSt_2 s t HO.out.2.2.1 HO.out.2.2.2 _ _ _ HL5.out ?s1).mono ?_); (case s1 => exact rowSS s t S5 S6 S7 S8 S9 m5 m6 m7 m8 m9 T5 T6 T7 T8 T9 n5 n6 n7 n8 n9 _ (RowsS.below HR2.out.2.2.2.2.1 HB.out) (RowsS.below HR2.out.2.2.2.2.2 HB.out)); rintro r W3 ⟨rfl, hb⟩; have hn_ := Lx.Hd.mk (below_step (below_alloc HB.out _) hb); clear hb HB; have HB := hn_; clear hn_; clear pp0 pp1 pp2 pp3 pq0 pq1 pq2 pq3 pe0 pe1 pe2 pe3 pe4 pe5 pf0 pf1 pf2 pf3 pf4 pf5 ps0 ps1 ps2 ps3 ps4 ps5 ps6 ps7 ps8 ps9 pt0 pt1 pt2 pt3 pt4 pt5 pt6 pt7 pt8 pt9; obtain ⟨pp0, pp1, pp2, pp3⟩ := BC1.out _ HB.out; obtain ⟨pq0, pq1, pq2, pq3⟩ := BC2.out _ HB.out; obtain ⟨pe0, pe1, pe2, pe3, pe4, pe5⟩ := BC3.out _ HB.out; obtain ⟨pf0, pf1, pf2, pf3, pf4, pf5⟩ := BC4.out _ HB.out; obtain ⟨ps0, ps1, ps2, ps3, ps4, ps5, ps6, ps7, ps8, ps9⟩ := BC5.out _ HB.out; obtain ⟨pt0, pt1, pt2, pt3, pt4, pt5, pt6, pt7, pt8, pt9⟩ := BC6.out _ HB.out) | fail)
  clear HL1 HL2 HL3 HL4 HL5 HW HO
  clear pp0 pp1 pp2 pp3 pq0 pq1 pq2 pq3 pe0 pe1 pe2 pe3 pe4 pe5 pf0 pf1 pf2 pf3 pf4 pf5 ps0 ps1 ps2 ps3 ps4 ps5 ps6 ps7 ps8 ps9 pt0 pt1 pt2 pt3 pt4 pt5 pt6 pt7 pt8 pt9
  as_aux_lemma =>
    have HBd := Lx.Hd.mk (below_drew HB.out)
    refine start_ (n := 75) (S := fun w' => CellsP w' x1 p A1 A2 A3 c1 c2 c3 ∧ CellsP w' x2 q B1 B2 B3 d1 d2 d3 ∧ CellsE w' x3 e E5 i5 ∧ CellsE w' x4 f F5 k5 ∧ BkS w' x5 s S5 S6 S7 S8 S9 m5 m6 m7 m8 m9 ∧ BkS w' x6 t T5 T6 T7 T8 T9 n5 n6 n7 n8 n9) (ds := []) (fl 75 0) (by kernel_rfl) rfl rfl ⟨BC1.out _ HBd.out, BC2.out _ HBd.out, BC3.out _ HBd.out, BC4.out _ HBd.out, BC5.out _ HBd.out, BC6.out _ HBd.out⟩ (fun hHeld => ?_)
    clear HB
    have HB := HBd
    clear HBd
    refine tk 0 (some 42) (fl 75 1) hHeld (hr := by rintro w' ⟨⟨s0, s1, s2, s3⟩, ⟨s4, s5, s6, s7⟩, ⟨s8, s9, s10, s11, s12, s13⟩, ⟨s14, s15, s16, s17, s18, s19⟩, ⟨s20, s21, s22, s23, s24, s25, s26, s27, s28, s29⟩, ⟨s30, s31, s32, s33, s34, s35, s36, s37, s38, s39⟩⟩; go_simp; with_reducible rfl) (h := ?_)
    refine tk 2 (some 44) (fl 75 5) hHeld (hr := by rintro w' ⟨⟨s0, s1, s2, s3⟩, ⟨s4, s5, s6, s7⟩, ⟨s8, s9, s10, s11, s12, s13⟩, ⟨s14, s15, s16, s17, s18, s19⟩, ⟨s20, s21, s22, s23, s24, s25, s26, s27, s28, s29⟩, ⟨s30, s31, s32, s33, s34, s35, s36, s37, s38, s39⟩⟩; go_simp; with_reducible rfl) (h := ?_)
    refine ca 1 43 (fl 75 7) Tryd.func34 (KC1.out _ (HB.out)) HB (fun _ hb => ⟨BC1.out _ hb, BC2.out _ hb, BC3.out _ hb, BC4.out _ hb, BC5.out _ hb, BC6.out _ hb⟩) ?_; clear HB hHeld; intro W3 HB hHeld
    refine ca 3 45 (fl 75 15) Tryd.func39 (KC2.out _ (HB.out)) HB (fun _ hb => ⟨BC1.out _ hb, BC2.out _ hb, BC3.out _ hb, BC4.out _ hb, BC5.out _ hb, BC6.out _ hb⟩) ?_; clear HB hHeld; intro W3 HB hHeld
    refine pu 4 (some 46) (fl 75 31) ?_
    refine pu 5 (some 47) (fl 75 63) ?_
    refine tk 6 (some 48) (fl 75 127) hHeld (hr := by rintro w' ⟨⟨s0, s1, s2, s3⟩, ⟨s4, s5, s6, s7⟩, ⟨s8, s9, s10, s11, s12, s13⟩, ⟨s14, s15, s16, s17, s18, s19⟩, ⟨s20, s21, s22, s23, s24, s25, s26, s27, s28, s29⟩, ⟨s30, s31, s32, s33, s34, s35, s36, s37, s38, s39⟩⟩; go_simp; with_reducible rfl) (h := ?_)
    refine tk 8 (some 50) (fl 75 383) hHeld (hr := by rintro w' ⟨⟨s0, s1, s2, s3⟩, ⟨s4, s5, s6, s7⟩, ⟨s8, s9, s10, s11, s12, s13⟩, ⟨s14, s15, s16, s17, s18, s19⟩, ⟨s20, s21, s22, s23, s24, s25, s26, s27, s28, s29⟩, ⟨s30, s31, s32, s33, s34, s35, s36, s37, s38, s39⟩⟩; go_simp; with_reducible rfl) (h := ?_)
    refine ca 7 49 (fl 75 511) Tryd.func16 (KE1.out _ (HB.out)) HB (fun _ hb => ⟨BC1.out _ hb, BC2.out _ hb, BC3.out _ hb, BC4.out _ hb, BC5.out _ hb, BC6.out _ hb⟩) ?_; clear HB hHeld; intro W3 HB hHeld
    refine ca 9 51 (fl 75 1023) Tryd.func40 (KE2.out _ (HB.out)) HB (fun _ hb => ⟨BC1.out _ hb, BC2.out _ hb, BC3.out _ hb, BC4.out _ hb, BC5.out _ hb, BC6.out _ hb⟩) ?_; clear HB hHeld; intro W3 HB hHeld
    refine pu 10 (some 52) (fl 75 2047) ?_
    refine pu 11 (some 53) (fl 75 4095) ?_
    refine pu 12 (some 54) (fl 75 8191) ?_
    refine tk 13 (some 55) (fl 75 16383) hHeld (hr := by rintro w' ⟨⟨s0, s1, s2, s3⟩, ⟨s4, s5, s6, s7⟩, ⟨s8, s9, s10, s11, s12, s13⟩, ⟨s14, s15, s16, s17, s18, s19⟩, ⟨s20, s21, s22, s23, s24, s25, s26, s27, s28, s29⟩, ⟨s30, s31, s32, s33, s34, s35, s36, s37, s38, s39⟩⟩; go_simp; with_reducible rfl) (h := ?_)
    refine tk 15 (some 57) (fl 75 49151) hHeld (hr := by rintro w' ⟨⟨s0, s1, s2, s3⟩, ⟨s4, s5, s6, s7⟩, ⟨s8, s9, s10, s11, s12, s13⟩, ⟨s14, s15, s16, s17, s18, s19⟩, ⟨s20, s21, s22, s23, s24, s25, s26, s27, s28, s29⟩, ⟨s30, s31, s32, s33, s34, s35, s36, s37, s38, s39⟩⟩; go_simp; with_reducible rfl) (h := ?_)
    as_aux_lemma =>
      refine ca 14 56 (fl 75 65535) Tryd.func22 (KS1.out _ (HB.out)) HB (fun _ hb => ⟨BC1.out _ hb, BC2.out _ hb, BC3.out _ hb, BC4.out _ hb, BC5.out _ hb, BC6.out _ hb⟩) ?_; clear HB hHeld; intro W3 HB hHeld
      refine ca 16 58 (fl 75 131071) Tryd.func41 (KS2.out _ (HB.out)) HB (fun _ hb => ⟨BC1.out _ hb, BC2.out _ hb, BC3.out _ hb, BC4.out _ hb, BC5.out _ hb, BC6.out _ hb⟩) ?_; clear HB hHeld; intro W3 HB hHeld
      refine pu 17 (some 59) (fl 75 262143) ?_
      refine pu 18 (some 60) (fl 75 524287) ?_
      refine pu 19 (some 61) (fl 75 1048575) ?_
      refine tk 20 (some 62) (fl 75 2097151) hHeld (hr := by rintro w' ⟨⟨s0, s1, s2, s3⟩, ⟨s4, s5, s6, s7⟩, ⟨s8, s9, s10, s11, s12, s13⟩, ⟨s14, s15, s16, s17, s18, s19⟩, ⟨s20, s21, s22, s23, s24, s25, s26, s27, s28, s29⟩, ⟨s30, s31, s32, s33, s34, s35, s36, s37, s38, s39⟩⟩; go_simp; with_reducible rfl) (h := ?_)
      refine tk 22 (some 64) (fl 75 6291455) hHeld (hr := by rintro w' ⟨⟨s0, s1, s2, s3⟩, ⟨s4, s5, s6, s7⟩, ⟨s8, s9, s10, s11, s12, s13⟩, ⟨s14, s15, s16, s17, s18, s19⟩, ⟨s20, s21, s22, s23, s24, s25, s26, s27, s28, s29⟩, ⟨s30, s31, s32, s33, s34, s35, s36, s37, s38, s39⟩⟩; go_simp; with_reducible rfl) (h := ?_)
      refine ca 21 63 (fl 75 8388607) Tryd.func27 (KZ1.out _ (HB.out)) HB (fun _ hb => ⟨BC1.out _ hb, BC2.out _ hb, BC3.out _ hb, BC4.out _ hb, BC5.out _ hb, BC6.out _ hb⟩) ?_; clear HB hHeld; intro W3 HB hHeld
      refine ca 23 65 (fl 75 16777215) Tryd.func42 (KZ2.out _ (HB.out)) HB (fun _ hb => ⟨BC1.out _ hb, BC2.out _ hb, BC3.out _ hb, BC4.out _ hb, BC5.out _ hb, BC6.out _ hb⟩) ?_; clear HB hHeld; intro W3 HB hHeld
      refine pu 24 (some 66) (fl 75 33554431) ?_
      refine pu 25 (some 67) (fl 75 67108863) ?_
      refine pu 26 (some 68) (fl 75 134217727) ?_
      refine tk 27 (some 69) (fl 75 268435455) hHeld (hr := by rintro w' ⟨⟨s0, s1, s2, s3⟩, ⟨s4, s5, s6, s7⟩, ⟨s8, s9, s10, s11, s12, s13⟩, ⟨s14, s15, s16, s17, s18, s19⟩, ⟨s20, s21, s22, s23, s24, s25, s26, s27, s28, s29⟩, ⟨s30, s31, s32, s33, s34, s35, s36, s37, s38, s39⟩⟩; go_simp; with_reducible rfl) (h := ?_)
      refine tk 29 (some 71) (fl 75 805306367) hHeld (hr := by rintro w' ⟨⟨s0, s1, s2, s3⟩, ⟨s4, s5, s6, s7⟩, ⟨s8, s9, s10, s11, s12, s13⟩, ⟨s14, s15, s16, s17, s18, s19⟩, ⟨s20, s21, s22, s23, s24, s25, s26, s27, s28, s29⟩, ⟨s30, s31, s32, s33, s34, s35, s36, s37, s38, s39⟩⟩; go_simp; with_reducible rfl) (h := ?_)
      as_aux_lemma =>
        refine ca 28 70 (fl 75 1073741823) Tryd.func26 (KD1.out _ (HB.out)) HB (fun _ hb => ⟨BC1.out _ hb, BC2.out _ hb, BC3.out _ hb, BC4.out _ hb, BC5.out _ hb, BC6.out _ hb⟩) ?_; clear HB hHeld; intro W3 HB hHeld
        refine ca 30 72 (fl 75 2147483647) Tryd.func43 (KD2.out _ (HB.out)) HB (fun _ hb => ⟨BC1.out _ hb, BC2.out _ hb, BC3.out _ hb, BC4.out _ hb, BC5.out _ hb, BC6.out _ hb⟩) ?_; clear HB hHeld; intro W3 HB hHeld
        refine pu 31 (some 73) (fl 75 4294967295) ?_
        refine pu 32 (some 74) (fl 75 8589934591) ?_
        refine pu 33 (some 75) (fl 75 17179869183) ?_
        refine tk 34 (some 76) (fl 75 34359738367) hHeld (hr := by rintro w' ⟨⟨s0, s1, s2, s3⟩, ⟨s4, s5, s6, s7⟩, ⟨s8, s9, s10, s11, s12, s13⟩, ⟨s14, s15, s16, s17, s18, s19⟩, ⟨s20, s21, s22, s23, s24, s25, s26, s27, s28, s29⟩, ⟨s30, s31, s32, s33, s34, s35, s36, s37, s38, s39⟩⟩; go_simp; with_reducible rfl) (h := ?_)
        refine tk 35 (some 77) (fl 75 68719476735) hHeld (hr := by rintro w' ⟨⟨s0, s1, s2, s3⟩, ⟨s4, s5, s6, s7⟩, ⟨s8, s9, s10, s11, s12, s13⟩, ⟨s14, s15, s16, s17, s18, s19⟩, ⟨s20, s21, s22, s23, s24, s25, s26, s27, s28, s29⟩, ⟨s30, s31, s32, s33, s34, s35, s36, s37, s38, s39⟩⟩; go_simp; with_reducible rfl) (h := ?_)
        refine tk 37 (some 79) (fl 75 206158430207) hHeld (hr := by rintro w' ⟨⟨s0, s1, s2, s3⟩, ⟨s4, s5, s6, s7⟩, ⟨s8, s9, s10, s11, s12, s13⟩, ⟨s14, s15, s16, s17, s18, s19⟩, ⟨s20, s21, s22, s23, s24, s25, s26, s27, s28, s29⟩, ⟨s30, s31, s32, s33, s34, s35, s36, s37, s38, s39⟩⟩; go_simp; with_reducible rfl) (h := ?_)
        refine tk 38 (some 80) (fl 75 481036337151) hHeld (hr := by rintro w' ⟨⟨s0, s1, s2, s3⟩, ⟨s4, s5, s6, s7⟩, ⟨s8, s9, s10, s11, s12, s13⟩, ⟨s14, s15, s16, s17, s18, s19⟩, ⟨s20, s21, s22, s23, s24, s25, s26, s27, s28, s29⟩, ⟨s30, s31, s32, s33, s34, s35, s36, s37, s38, s39⟩⟩; go_simp; with_reducible rfl) (h := ?_)
        refine ca 36 78 (fl 75 549755813887) Tryd.func33 (KM1.out _ (HB.out)) HB (fun _ hb => ⟨BC1.out _ hb, BC2.out _ hb, BC3.out _ hb, BC4.out _ hb, BC5.out _ hb, BC6.out _ hb⟩) ?_; clear HB hHeld; intro W3 HB hHeld
        refine ca 39 81 (fl 75 1099511627775) Tryd.func44 (KM2.out _ (HB.out)) HB (fun _ hb => ⟨BC1.out _ hb, BC2.out _ hb, BC3.out _ hb, BC4.out _ hb, BC5.out _ hb, BC6.out _ hb⟩) ?_; clear HB hHeld; intro W3 HB hHeld
        refine pu 40 (some 82) (fl 75 2199023255551) ?_
        refine pu 41 (some 83) (fl 75 4398046511103) ?_
        as_aux_lemma =>
          refine pu 42 (some 84) (fl 75 8796093022207) ?_
          refine tk 43 (some 85) (fl 75 17592186044415) hHeld (hr := by rintro w' ⟨⟨s0, s1, s2, s3⟩, ⟨s4, s5, s6, s7⟩, ⟨s8, s9, s10, s11, s12, s13⟩, ⟨s14, s15, s16, s17, s18, s19⟩, ⟨s20, s21, s22, s23, s24, s25, s26, s27, s28, s29⟩, ⟨s30, s31, s32, s33, s34, s35, s36, s37, s38, s39⟩⟩; go_simp; with_reducible rfl) (h := ?_)
          refine tk 44 (some 86) (fl 75 35184372088831) hHeld (hr := by rintro w' ⟨⟨s0, s1, s2, s3⟩, ⟨s4, s5, s6, s7⟩, ⟨s8, s9, s10, s11, s12, s13⟩, ⟨s14, s15, s16, s17, s18, s19⟩, ⟨s20, s21, s22, s23, s24, s25, s26, s27, s28, s29⟩, ⟨s30, s31, s32, s33, s34, s35, s36, s37, s38, s39⟩⟩; go_simp; with_reducible rfl) (h := ?_)
          refine tk 46 (some 88) (fl 75 105553116266495) hHeld (hr := by rintro w' ⟨⟨s0, s1, s2, s3⟩, ⟨s4, s5, s6, s7⟩, ⟨s8, s9, s10, s11, s12, s13⟩, ⟨s14, s15, s16, s17, s18, s19⟩, ⟨s20, s21, s22, s23, s24, s25, s26, s27, s28, s29⟩, ⟨s30, s31, s32, s33, s34, s35, s36, s37, s38, s39⟩⟩; go_simp; with_reducible rfl) (h := ?_)
          refine tk 47 (some 89) (fl 75 246290604621823) hHeld (hr := by rintro w' ⟨⟨s0, s1, s2, s3⟩, ⟨s4, s5, s6, s7⟩, ⟨s8, s9, s10, s11, s12, s13⟩, ⟨s14, s15, s16, s17, s18, s19⟩, ⟨s20, s21, s22, s23, s24, s25, s26, s27, s28, s29⟩, ⟨s30, s31, s32, s33, s34, s35, s36, s37, s38, s39⟩⟩; go_simp; with_reducible rfl) (h := ?_)
          refine ca 45 87 (fl 75 281474976710655) Tryd.func36 (KX1.out _ (HB.out)) HB (fun _ hb => ⟨BC1.out _ hb, BC2.out _ hb, BC3.out _ hb, BC4.out _ hb, BC5.out _ hb, BC6.out _ hb⟩) ?_; clear HB hHeld; intro W3 HB hHeld
          refine ca 48 90 (fl 75 562949953421311) Tryd.func45 (KX2.out _ (HB.out)) HB (fun _ hb => ⟨BC1.out _ hb, BC2.out _ hb, BC3.out _ hb, BC4.out _ hb, BC5.out _ hb, BC6.out _ hb⟩) ?_; clear HB hHeld; intro W3 HB hHeld
          refine pu 49 (some 91) (fl 75 1125899906842623) ?_
          refine pu 50 (some 92) (fl 75 2251799813685247) ?_
          refine pu 51 (some 93) (fl 75 4503599627370495) ?_
          refine tk 52 (some 94) (fl 75 9007199254740991) hHeld (hr := by rintro w' ⟨⟨s0, s1, s2, s3⟩, ⟨s4, s5, s6, s7⟩, ⟨s8, s9, s10, s11, s12, s13⟩, ⟨s14, s15, s16, s17, s18, s19⟩, ⟨s20, s21, s22, s23, s24, s25, s26, s27, s28, s29⟩, ⟨s30, s31, s32, s33, s34, s35, s36, s37, s38, s39⟩⟩; go_simp; with_reducible rfl) (h := ?_)
          refine tk 53 (some 95) (fl 75 18014398509481983) hHeld (hr := by rintro w' ⟨⟨s0, s1, s2, s3⟩, ⟨s4, s5, s6, s7⟩, ⟨s8, s9, s10, s11, s12, s13⟩, ⟨s14, s15, s16, s17, s18, s19⟩, ⟨s20, s21, s22, s23, s24, s25, s26, s27, s28, s29⟩, ⟨s30, s31, s32, s33, s34, s35, s36, s37, s38, s39⟩⟩; go_simp; with_reducible rfl) (h := ?_)
          refine tk 55 (some 97) (fl 75 54043195528445951) hHeld (hr := by rintro w' ⟨⟨s0, s1, s2, s3⟩, ⟨s4, s5, s6, s7⟩, ⟨s8, s9, s10, s11, s12, s13⟩, ⟨s14, s15, s16, s17, s18, s19⟩, ⟨s20, s21, s22, s23, s24, s25, s26, s27, s28, s29⟩, ⟨s30, s31, s32, s33, s34, s35, s36, s37, s38, s39⟩⟩; go_simp; with_reducible rfl) (h := ?_)
          as_aux_lemma =>
            refine tk 56 (some 98) (fl 75 126100789566373887) hHeld (hr := by rintro w' ⟨⟨s0, s1, s2, s3⟩, ⟨s4, s5, s6, s7⟩, ⟨s8, s9, s10, s11, s12, s13⟩, ⟨s14, s15, s16, s17, s18, s19⟩, ⟨s20, s21, s22, s23, s24, s25, s26, s27, s28, s29⟩, ⟨s30, s31, s32, s33, s34, s35, s36, s37, s38, s39⟩⟩; go_simp; with_reducible rfl) (h := ?_)
            refine ca 54 96 (fl 75 144115188075855871) Tryd.func46 (KT1.out _ (HB.out)) HB (fun _ hb => ⟨BC1.out _ hb, BC2.out _ hb, BC3.out _ hb, BC4.out _ hb, BC5.out _ hb, BC6.out _ hb⟩) ?_; clear HB hHeld; intro W3 HB hHeld
            refine ca 57 99 (fl 75 288230376151711743) Tryd.func47 (KT2.out _ (HB.out)) HB (fun _ hb => ⟨BC1.out _ hb, BC2.out _ hb, BC3.out _ hb, BC4.out _ hb, BC5.out _ hb, BC6.out _ hb⟩) ?_; clear HB hHeld; intro W3 HB hHeld
            refine pu 58 (some 100) (fl 75 576460752303423487) ?_
            refine pu 59 (some 101) (fl 75 1152921504606846975) ?_
            refine pu 60 (some 102) (fl 75 2305843009213693951) ?_
            refine pu 61 (some 103) (fl 75 4611686018427387903) ?_
            refine pu 63 (some 105) (fl 75 13835058055282163711) ?_
            refine ca 62 104 (fl 75 18446744073709551615) Tryd.func38 (KW1.out _ (HB.out)) HB (fun _ hb => ⟨BC1.out _ hb, BC2.out _ hb, BC3.out _ hb, BC4.out _ hb, BC5.out _ hb, BC6.out _ hb⟩) ?_; clear HB hHeld; intro W3 HB hHeld
            refine ca 64 106 (fl 75 36893488147419103231) Tryd.func48 (KW2.out _ (HB.out)) HB (fun _ hb => ⟨BC1.out _ hb, BC2.out _ hb, BC3.out _ hb, BC4.out _ hb, BC5.out _ hb, BC6.out _ hb⟩) ?_; clear HB hHeld; intro W3 HB hHeld
            refine pu 65 (some 107) (fl 75 73786976294838206463) ?_
            refine pu 66 (some 108) (fl 75 147573952589676412927) ?_
            refine pu 67 (some 109) (fl 75 295147905179352825855) ?_
            refine tk 68 (some 110) (fl 75 590295810358705651711) hHeld (hr := by rintro w' ⟨⟨s0, s1, s2, s3⟩, ⟨s4, s5, s6, s7⟩, ⟨s8, s9, s10, s11, s12, s13⟩, ⟨s14, s15, s16, s17, s18, s19⟩, ⟨s20, s21, s22, s23, s24, s25, s26, s27, s28, s29⟩, ⟨s30, s31, s32, s33, s34, s35, s36, s37, s38, s39⟩⟩; go_simp; with_reducible rfl) (h := ?_)
            refine tk 70 (some 112) (fl 75 1770887431076116955135) hHeld (hr := by rintro w' ⟨⟨s0, s1, s2, s3⟩, ⟨s4, s5, s6, s7⟩, ⟨s8, s9, s10, s11, s12, s13⟩, ⟨s14, s15, s16, s17, s18, s19⟩, ⟨s20, s21, s22, s23, s24, s25, s26, s27, s28, s29⟩, ⟨s30, s31, s32, s33, s34, s35, s36, s37, s38, s39⟩⟩; go_simp; with_reducible rfl) (h := ?_)
            refine one_ (i := 69) (N := some 111) (fl 75 2361183241434822606847) rfl rfl (by kernel_rfl) (by decide) (fun K hK => ?_)
            refine goes_ Tryd.func18 (by kernel_rfl) rfl #[.agg #[.int .i64 e.f0, .int .i64 e.f1, .int .i64 e.f2, .int .u32 e.f3, .string e.f4, .slice E5 e.f5.length i5]] (by rfl) rfl rfl (by (try simp only [List.map_toArray, List.map_cons, List.map_nil]); first | done | rfl) ?_
            with_reducible refine (KN1.out _ ?s1).mono ?_
            (case s1 => exact HB.out)
            rintro r W10 ⟨v1, rfl, ho1, hb⟩
            refine ⟨_, rfl, ?_⟩
            obtain ⟨A1', c1', rfl⟩ := Kd.R_slice ho1
            have HC1' := Lx.Hd.mk (Kd.R_reads' ho1).2
            clear ho1
            replace HB := bst HB hb
            clear hb
            refine hK.out _ _ ⟨BC1.out _ HB.out, BC2.out _ HB.out, BC3.out _ HB.out, BC4.out _ HB.out, BC5.out _ HB.out, BC6.out _ HB.out⟩ (fun hHeld => ?_)
            clear hK K
            refine norm_ (a' := ?_) ?_ ?_
            rotate_left; · (show Act.put _ (some 111) _ = _; simp only [Act.put, List.setIfInBounds_toArray, List.set_cons_zero, List.set_cons_succ, i64_w, i32_w]; rfl)
            refine one_ (i := 71) (N := some 113) (fl 75 4722366482869645213695) rfl rfl (by kernel_rfl) (by decide) (fun K hK => ?_)
            refine goes_ Tryd.func49 (by kernel_rfl) rfl #[.agg #[.int .i64 e.f0, .int .i64 e.f1, .int .i64 e.f2, .int .u32 e.f3, .string e.f4, .slice E5 e.f5.length i5]] (by rfl) rfl rfl (by (try simp only [List.map_toArray, List.map_cons, List.map_nil]); first | done | rfl) ?_
            with_reducible refine (KN2.out _ ?s1).mono ?_
            (case s1 => exact HB.out)
            rintro r W11 ⟨v2, rfl, ho2, hb⟩
            refine ⟨_, rfl, ?_⟩
            obtain ⟨A2', c2', rfl⟩ := Kd.R_slice ho2
            have HC2' := Lx.Hd.mk (Kd.R_reads' ho2).2
            clear ho2
            have hq_ := Lx.Hd.mk (And.intro HC1'.out.1 (Kd.C_below HC1'.out.2 hb))
            clear HC1'
            have HC1' := hq_
            clear hq_
            replace HB := bst HB hb
            clear hb
            refine hK.out _ _ ⟨BC1.out _ HB.out, BC2.out _ HB.out, BC3.out _ HB.out, BC4.out _ HB.out, BC5.out _ HB.out, BC6.out _ HB.out⟩ (fun hHeld => ?_)
            clear hK K
            refine norm_ (a' := ?_) ?_ ?_
            rotate_left; · (show Act.put _ (some 113) _ = _; simp only [Act.put, List.setIfInBounds_toArray, List.set_cons_zero, List.set_cons_succ, i64_w, i32_w]; rfl)
            refine ca 72 114 (fl 75 9444732965739290427391) Tryd.func21 (texts_calls Ne (by omega) A1' A2' c1' c2' _ (HC1'.out.1) (HC2'.out.1) (HC1'.out.2) (HC2'.out.2)) HB (fun _ hb => ⟨BC1.out _ hb, BC2.out _ hb, BC3.out _ hb, BC4.out _ hb, BC5.out _ hb, BC6.out _ hb⟩) ?_; clear HB hHeld; intro W3 HB hHeld
            refine pu 73 (some 115) (fl 75 18889465931478580854783) ?_
            refine pu 74 (some 14) (fl 75 37778931862957161709567) ?_
            refine done_ (by kernel_rfl) ?_
            go_wp2
            go_ret
            exact ⟨rfl, bto HB0 HB⟩
end Go.Proofs.YtgkhpecllhiidaaDoor.A
