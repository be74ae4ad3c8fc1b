/- Package ast: the children of a node, one after the other. -/
import Derived.Test.YtgkhpecllhiidaaDoorAa
set_option linter.unusedVariables false
set_option linter.unusedSimpArgs false
namespace Go.Proofs.YtgkhpecllhiidaaDoor.As
open Go.RowKit Go.Shelf
attribute [local go_sem] Oper.semAt_some

theorem cell_new (W : World) (v : Value) (t : TypeId) : (W.alloc (.cells #[v] t)).cell? ⟨W.heap.size, 0, none⟩ = some v := by
  have h : (W.alloc (.cells #[v] t)).heap[W.heap.size]? = some (.cells #[v] t (0, 0)) := World.alloc_heap_new W _
  unfold World.cell?; rw [h]; rfl
theorem cell_alloc_a {W : World} {a : Addr} {v : Value} (o : Obj) (h : W.cell? a = some v) : (W.alloc o).cell? a = some v := cell_kept h (World.grownBy_alloc W o none) (fun r e => by cases e)
/-- What a round owes to the iterator. -/
def Round {α : Type} (Bc m l : Nat) (val : α → Value) (N : Nat) (J Jx : List α → World → Prop) : Prop :=
  ∀ pre x W1, J pre W1 → pre.length < N → YieldAt Fence.wide m Tryd.prog l #[val x] W1 fun e W' =>
    (e = .returned (.bool true) ∧ J (pre ++ [x]) W' ∧ KpB Bc W1 W') ∨ (e = .returned (.bool false) ∧ Jx (pre ++ [x]) W')
def SeqPost {α : Type} (xs : List α) (J Jx : List α → World → Prop) (e : Ending) (W' : World) : Prop :=
  (∃ v, e = .returned v) ∧ ((∃ ys, ys = xs ∧ J ys W') ∨ (∃ pre, pre <+: xs ∧ Jx pre W'))
/-- The state between two elements: so much has come; since W0 the round's block alone has been written. -/
def Jn {α : Type} (Bc : Nat) (W0 : World) (done part : List α) (J : List α → World → Prop) (i : Nat) (V : World) : Prop := J (done ++ part.take i) V ∧ KpB Bc W0 V
def Jxn {α : Type} (done part : List α) (Jx : List α → World → Prop) (i : Nat) (V : World) : Prop := Jx (done ++ part.take i) V
theorem round_step {α : Type} {Bc m l N : Nat} {val : α → Value} {J Jx : List α → World → Prop} (hY : Round Bc m l val N J Jx) (W0 : World) (done part : List α) (i : Nat) (hi : i < part.length) (hN : done.length + part.length ≤ N) (V : World) (h : Jn Bc W0 done part J i V) :
    YieldAt Fence.wide m Tryd.prog l #[val part[i]] V (IsBool (EachStep (Jn Bc W0 done part J) (Jxn done part Jx) i)) := by
  obtain ⟨hj, hk⟩ := h
  have hl : (done ++ part.take i).length < N := by rw [List.length_append, List.length_take]; omega
  have e : done ++ part.take i ++ [part[i]] = done ++ part.take (i + 1) := by rw [List.append_assoc, List.take_append_getElem]
  refine YieldAt.mono (hY _ part[i] V hj hl) fun e' W' h => ?_
  rcases h with ⟨rfl, h1, h2⟩ | ⟨rfl, h1⟩
  · exact ⟨true, rfl, .inl ⟨rfl, by rw [e] at h1; exact h1, hk.trans h2⟩⟩
  · exact ⟨false, rfl, .inr ⟨rfl, by rw [e] at h1; exact h1⟩⟩
theorem take_prefix {α : Type} (done part rest : List α) (i : Nat) : (done ++ part.take i) <+: (done ++ part ++ rest) := by
  rw [List.append_assoc]
  exact (List.prefix_append_right_inj _).2 ((List.take_prefix i part).trans (List.prefix_append _ _))
set_option maxRecDepth 100000 in
theorem seq_ex {α : Type} (val : α → Value) (xs : List α) (Bc Bn : Nat) (a : Addr) (A : Option Addr) (cap m l : Nat) (J Jx : List α → World → Prop) (W : World)
    (hJ : AbidesFrom W.heap.size J) (hY : Round Bc m l val xs.length J Jx) (h0 : J [] W) (hBc : Bc < W.heap.size)
    (c0 : W.cell? ⟨Bn, 0, none⟩ = some (.pointer (some a))) (c5 : W.cell? ⟨a.block, a.off + 5, none⟩ = some (.slice A xs.length cap)) (hA : 0 < xs.length → ∃ ad, A = some ad) (hlen : xs.length ≤ 9223372036854775807)
    (hval : ∀ (i : Nat) (h : i < xs.length) (ad : Addr), A = some ad → val xs[i] = .agg #[.pointer (some (ad.add (i * 6))), .pointer none]) :
    Calls Tryd.prog 125 #[.func (.yield l) #[] #[], .pointer (some ⟨Bn, 0, none⟩)] W (SeqPost xs J Jx) := by
  have hb := cell_new W (.func (.yield l) #[] #[]) 158
  generalize hW1 : W.alloc (.cells #[.func (.yield l) #[] #[]] 158) = W1 at hb
  have h01 : J [] W1 := by rw [← hW1]; exact hJ _ _ _ none h0 (World.grownBy_alloc W _ none) (fun r e => by cases e)
  have hc := each_1 A xs.length cap W.heap.size (Jn Bc W1 [] xs J) (Jxn [] xs Jx) hA hlen (fun i ad V hi hAd hj => by
    have hy := round_step hY W1 [] xs i hi (by simp) V hj
    rw [hval i hi ad hAd] at hy
    exact yield_1 l W.heap.size m _ V _ (hj.2.cell (p := ⟨W.heap.size, 0, none⟩) (by simp; omega) hb) hy) W1 ⟨h01, KpB.refl _ _⟩
  have HC := Lx.Hd.mk hc
  have d0 : W1.cell? ⟨Bn, 0, none⟩ = some (.pointer (some a)) := by rw [← hW1]; exact cell_alloc_a _ c0
  have d5 : W1.cell? ⟨a.block, a.off + 5, none⟩ = some (.slice A xs.length cap) := by rw [← hW1]; exact cell_alloc_a _ c5
  subst hW1
  clear hc hY hJ hval hlen h01 hb
  go_enter Tryd.func125, Tryd.ntmps125
  go_wp2_with (go_at_call 126; refine HC.out.mono ?_; rintro e W2 ⟨b, rfl, hb⟩)
  go_end0
  refine ⟨⟨_, rfl⟩, ?_⟩
  rcases hb with ⟨rfl, hj, _⟩ | ⟨rfl, i, hi, hx⟩
  · exact .inl ⟨_, rfl, by rw [List.nil_append, List.take_length] at hj; exact hj⟩
  · exact .inr ⟨_, List.take_prefix _ _, hx⟩
structure Part {α : Type} (ex : Bool) (val : α → Value) (part : List α) (A : Option Addr) : Prop where
  hA : 0 < part.length → ∃ ad, A = some ad
  hlen : part.length ≤ 9223372036854775807
  hval : ∀ (i : Nat) (h : i < part.length) (ad : Addr), A = some ad → val part[i] = if ex then .agg #[.pointer (some (ad.add (i * 6))), .pointer none] else .agg #[.pointer none, .pointer (some (ad.add (i * 10)))]
theorem part_2 {α : Type} {val : α → Value} {part : List α} {A : Option Addr} (P : Part true val part A) {Bc m l N B cap : Nat} {J Jx : List α → World → Prop} (hY : Round Bc m l val N J Jx) (W0 : World) (done : List α) (hN : done.length + part.length ≤ N)
    (hB : B ≠ Bc) (hb : W0.cell? ⟨B, 0, none⟩ = some (.func (.yield l) #[] #[])) (V : World) (hj : J done V) (hk : KpB Bc W0 V) :
    Calls Tryd.prog 126 #[.slice A part.length cap, .func (.func 128) #[] #[.pointer (some ⟨B, 0, none⟩)]] V (IsBool (EachPost (Jn Bc W0 done part J) (Jxn done part Jx) part.length)) :=
  each_2 A part.length cap B (Jn Bc W0 done part J) (Jxn done part Jx) P.hA P.hlen (fun i ad V hi hAd hj => by
    have hy := round_step hY W0 done part i hi hN V hj
    rw [P.hval i hi ad hAd] at hy
    exact yield_2 l B m _ V _ (hj.2.cell (p := ⟨B, 0, none⟩) hB hb) hy) V ⟨by rw [List.take_zero, List.append_nil]; exact hj, hk⟩
theorem part_3 {α : Type} {val : α → Value} {part : List α} {A : Option Addr} (P : Part true val part A) {Bc m l N B cap : Nat} {J Jx : List α → World → Prop} (hY : Round Bc m l val N J Jx) (W0 : World) (done : List α) (hN : done.length + part.length ≤ N)
    (hB : B ≠ Bc) (hb : W0.cell? ⟨B, 0, none⟩ = some (.func (.yield l) #[] #[])) (V : World) (hj : J done V) (hk : KpB Bc W0 V) :
    Calls Tryd.prog 126 #[.slice A part.length cap, .func (.func 129) #[] #[.pointer (some ⟨B, 0, none⟩)]] V (IsBool (EachPost (Jn Bc W0 done part J) (Jxn done part Jx) part.length)) :=
  each_3 A part.length cap B (Jn Bc W0 done part J) (Jxn done part Jx) P.hA P.hlen (fun i ad V hi hAd hj => by
    have hy := round_step hY W0 done part i hi hN V hj
    rw [P.hval i hi ad hAd] at hy
    exact yield_3 l B m _ V _ (hj.2.cell (p := ⟨B, 0, none⟩) hB hb) hy) V ⟨by rw [List.take_zero, List.append_nil]; exact hj, hk⟩
theorem part_4 {α : Type} {val : α → Value} {part : List α} {A : Option Addr} (P : Part false val part A) {Bc m l N B cap : Nat} {J Jx : List α → World → Prop} (hY : Round Bc m l val N J Jx) (W0 : World) (done : List α) (hN : done.length + part.length ≤ N)
    (hB : B ≠ Bc) (hb : W0.cell? ⟨B, 0, none⟩ = some (.func (.yield l) #[] #[])) (V : World) (hj : J done V) (hk : KpB Bc W0 V) :
    Calls Tryd.prog 103 #[.slice A part.length cap, .func (.func 130) #[] #[.pointer (some ⟨B, 0, none⟩)]] V (IsBool (EachPost (Jn Bc W0 done part J) (Jxn done part Jx) part.length)) :=
  each_4 A part.length cap B (Jn Bc W0 done part J) (Jxn done part Jx) P.hA P.hlen (fun i ad V hi hAd hj => by
    have hy := round_step hY W0 done part i hi hN V hj
    rw [P.hval i hi ad hAd] at hy
    exact yield_4 l B m _ V _ (hj.2.cell (p := ⟨B, 0, none⟩) hB hb) hy) V ⟨by rw [List.take_zero, List.append_nil]; exact hj, hk⟩
theorem part_5 {α : Type} {val : α → Value} {part : List α} {A : Option Addr} (P : Part false val part A) {Bc m l N B cap : Nat} {J Jx : List α → World → Prop} (hY : Round Bc m l val N J Jx) (W0 : World) (done : List α) (hN : done.length + part.length ≤ N)
    (hB : B ≠ Bc) (hb : W0.cell? ⟨B, 0, none⟩ = some (.func (.yield l) #[] #[])) (V : World) (hj : J done V) (hk : KpB Bc W0 V) :
    Calls Tryd.prog 103 #[.slice A part.length cap, .func (.func 131) #[] #[.pointer (some ⟨B, 0, none⟩)]] V (IsBool (EachPost (Jn Bc W0 done part J) (Jxn done part Jx) part.length)) :=
  each_5 A part.length cap B (Jn Bc W0 done part J) (Jxn done part Jx) P.hA P.hlen (fun i ad V hi hAd hj => by
    have hy := round_step hY W0 done part i hi hN V hj
    rw [P.hval i hi ad hAd] at hy
    exact yield_5 l B m _ V _ (hj.2.cell (p := ⟨B, 0, none⟩) hB hb) hy) V ⟨by rw [List.take_zero, List.append_nil]; exact hj, hk⟩
set_option maxRecDepth 100000 in
theorem seq_st {α : Type} (val : α → Value) (x1 x2 x3 x4 : List α) (Bc Bn : Nat) (a : Addr) (A1 A2 A3 A4 : Option Addr) (p1 p2 p3 p4 m l : Nat) (J Jx : List α → World → Prop) (W : World)
    (hJ : AbidesFrom W.heap.size J) (hY : Round Bc m l val (x1 ++ x2 ++ x3 ++ x4).length J Jx) (h0 : J [] W) (hBc : Bc < W.heap.size) (hBn : Bn ≠ Bc) (hab : a.block ≠ Bc)
    (c0 : W.cell? ⟨Bn, 0, none⟩ = some (.pointer none)) (c1 : W.cell? ⟨Bn, 1, none⟩ = some (.pointer (some a)))
    (s1 : W.cell? ⟨a.block, a.off + 6, none⟩ = some (.slice A1 x1.length p1)) (s2 : W.cell? ⟨a.block, a.off + 7, none⟩ = some (.slice A2 x2.length p2)) (s3 : W.cell? ⟨a.block, a.off + 8, none⟩ = some (.slice A3 x3.length p3)) (s4 : W.cell? ⟨a.block, a.off + 9, none⟩ = some (.slice A4 x4.length p4))
    (P1 : Part true val x1 A1) (P2 : Part true val x2 A2) (P3 : Part false val x3 A3) (P4 : Part false val x4 A4) :
    Calls Tryd.prog 125 #[.func (.yield l) #[] #[], .pointer (some ⟨Bn, 0, none⟩)] W (SeqPost (x1 ++ x2 ++ x3 ++ x4) J Jx) := by
  have hb := cell_new W (.func (.yield l) #[] #[]) 158
  generalize hW1 : W.alloc (.cells #[.func (.yield l) #[] #[]] 158) = W1 at hb
  have h01 : J [] W1 := by rw [← hW1]; exact hJ _ _ _ none h0 (World.grownBy_alloc W _ none) (fun r e => by cases e)
  have hBB : W.heap.size ≠ Bc := by omega
  have al : ∀ {p : Addr} {v : Value}, W.cell? p = some v → W1.cell? p = some v := fun h => by rw [← hW1]; exact cell_alloc_a _ h
  have d0 := al c0
  have d1 := al c1
  have d2 := al s1
  have n0 : ([] : List α).length + x1.length ≤ (x1 ++ x2 ++ x3 ++ x4).length := by simp <;> omega
  have n1 : x1.length + x2.length ≤ (x1 ++ x2 ++ x3 ++ x4).length := by simp <;> omega
  have n2 : (x1 ++ x2).length + x3.length ≤ (x1 ++ x2 ++ x3 ++ x4).length := by simp <;> omega
  have n3 : (x1 ++ x2 ++ x3).length + x4.length ≤ (x1 ++ x2 ++ x3 ++ x4).length := by simp <;> omega
  have H1 := Lx.Hd.mk (part_2 P1 (cap := p1) hY W1 [] n0 hBB hb W1 h01 (KpB.refl _ _))
  have H2 := Lx.Hd.mk (fun V hj hk => part_3 P2 (cap := p2) hY W1 x1 n1 hBB hb V hj hk)
  have H3 := Lx.Hd.mk (fun V hj hk => part_4 P3 (cap := p3) hY W1 (x1 ++ x2) n2 hBB hb V hj hk)
  have H4 := Lx.Hd.mk (fun V hj hk => part_5 P4 (cap := p4) hY W1 (x1 ++ x2 ++ x3) n3 hBB hb V hj hk)
  have K1 := Lx.Hd.mk (fun {V : World} (hk : KpB Bc W1 V) => hk.cell (p := ⟨Bn, 1, none⟩) hBn (al c1))
  have K2 := Lx.Hd.mk (fun {V : World} (hk : KpB Bc W1 V) => hk.cell (p := ⟨a.block, a.off + 7, none⟩) hab (al s2))
  have K3 := Lx.Hd.mk (fun {V : World} (hk : KpB Bc W1 V) => hk.cell (p := ⟨a.block, a.off + 8, none⟩) hab (al s3))
  have K4 := Lx.Hd.mk (fun {V : World} (hk : KpB Bc W1 V) => hk.cell (p := ⟨a.block, a.off + 9, none⟩) hab (al s4))
  clear al
  subst hW1
  clear hY hJ h01 hb n0 n1 n2 n3 P1 P2 P3 P4 c0 c1 s1 s2 s3 s4
  go_enter Tryd.func125, Tryd.ntmps125
  go_wp2_with (first
    | (go_at_call 126; refine H1.out.mono ?_; clear H1; rintro e W2 ⟨b, rfl, hb⟩; rcases hb with ⟨rfl, hj2⟩ | ⟨rfl, hx2⟩; (have e1 := K1.out hj2.2; have e2 := K2.out hj2.2; have J2 := Lx.Hd.mk hj2; clear hj2))
    | (go_at_call 126; refine (H2.out _ (by have := J2.out.1; rwa [List.take_length] at this) J2.out.2).mono ?_; clear H2; rintro e W3 ⟨b, rfl, hb⟩; rcases hb with ⟨rfl, hj3⟩ | ⟨rfl, hx3⟩; (have f1 := K1.out hj3.2; have f2 := K3.out hj3.2; have J3 := Lx.Hd.mk hj3; clear hj3))
    | (go_at_call 103; refine (H3.out _ (by have := J3.out.1; rwa [List.take_length] at this) J3.out.2).mono ?_; clear H3; rintro e W4 ⟨b, rfl, hb⟩; rcases hb with ⟨rfl, hj4⟩ | ⟨rfl, hx4⟩; (have g1 := K1.out hj4.2; have g2 := K4.out hj4.2; have J4 := Lx.Hd.mk hj4; clear hj4))
    | (go_at_call 103; refine (H4.out _ (by have := J4.out.1; rwa [List.take_length] at this) J4.out.2).mono ?_; clear H4; rintro e W5 ⟨b, rfl, hb⟩; rcases hb with ⟨rfl, hj5⟩ | ⟨rfl, hx5⟩))
  all_goals (go_end0; refine ⟨⟨_, rfl⟩, ?_⟩)
  · exact .inl ⟨_, rfl, by have := hj5.1; rwa [List.take_length] at this⟩
  · obtain ⟨i, _, hx⟩ := hx5
    exact .inr ⟨_, by have := take_prefix (x1 ++ x2 ++ x3) x4 [] (i + 1); rwa [List.append_nil] at this, hx⟩
  · obtain ⟨i, _, hx⟩ := hx4
    exact .inr ⟨_, take_prefix (x1 ++ x2) x3 x4 (i + 1), hx⟩
  · obtain ⟨i, _, hx⟩ := hx3
    exact .inr ⟨_, by have := take_prefix x1 x2 (x3 ++ x4) (i + 1); rwa [← List.append_assoc] at this, hx⟩
  · obtain ⟨i, _, hx⟩ := hx2
    exact .inr ⟨_, by have := take_prefix [] x1 (x2 ++ x3 ++ x4) (i + 1); rwa [List.nil_append, List.nil_append, ← List.append_assoc, ← List.append_assoc] at this, hx⟩
end Go.Proofs.YtgkhpecllhiidaaDoor.As
