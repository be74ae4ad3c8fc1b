/- Package ast: what a round of an iterator keeps; the closures that hand a child on; each. -/
import Derived.Test.YtnjnadlgndjnbaaDoorYHa
import Derived.RangeFuncNested
import Derived.RangeFuncBound
import Derived.RangeFuncCalls
import Derived.RangeFuncLeaves
import Derived.Shelf.Abstract
import Derived.Shelf.RegionOpen
import Derived.WalkKit
import Derived.OwnWalkIn
import Derived.TacticsInMore
import Derived.LoopNIn
import Derived.LoopIn
import Derived.Test.YtnjnadlgndjnbaaDoorYAx0
set_option linter.unusedVariables false
set_option linter.unusedSimpArgs false
namespace Go.Proofs.YtnjnadlgndjnbaaDoor.As
open Go.RowKit Go.Shelf
attribute [local go_sem] Oper.semAt_some
structure KpB (B0 : Nat) (W W' : World) : Prop where
  size : W.heap.size ≤ W'.heap.size
  same : ∀ b cs t q, b ≠ B0 → W.heap[b]? = some (.cells cs t q) → W'.heap[b]? = some (.cells cs t q)
theorem KpB.refl (B0 : Nat) (W : World) : KpB B0 W W := ⟨Nat.le_refl _, fun _ _ _ _ _ h => h⟩
theorem KpB.trans {B0 : Nat} {A B C : World} (h : KpB B0 A B) (k : KpB B0 B C) : KpB B0 A C :=
  ⟨Nat.le_trans h.size k.size, fun b cs t q hb hc => k.same b cs t q hb (h.same b cs t q hb hc)⟩
theorem KpB.putObj {B0 : Nat} (W : World) (l : Nat) (o o' : Obj) (hl : W.heap[l]? = some o) (ho : o.isCells = false) : KpB B0 W (W.putObj l o') := by
  have hg := grownBy_putObj' W l o'
  refine ⟨hg.size, fun b cs t q _ hc => ?_⟩
  have hlt := (Array.getElem?_eq_some_iff.1 hc).1
  rw [hg.block b hlt (fun e => by cases e; rw [hl] at hc; cases hc; cases ho)]
  exact hc
theorem KpB.of_below {B0 : Nat} {W W' : World} (h : Below W.heap.size W W') : KpB B0 W W' :=
  ⟨h.size, fun b cs t q _ hc => (h.block b (Array.getElem?_eq_some_iff.1 hc).1).trans hc⟩
theorem KpB.cell {B0 : Nat} {W W' : World} (h : KpB B0 W W') {p : Addr} {v : Value} (hb : p.block ≠ B0) (hc : W.cell? p = some v) : W'.cell? p = some v := by
  unfold World.cell? at hc ⊢
  cases ho : W.heap[p.block]? with
  | none => rw [ho] at hc; cases hc
  | some o =>
    cases o with
    | cells cs t q => rw [h.same p.block cs t q hb ho]; rw [ho] at hc; exact hc
    | _ => rw [ho] at hc; cases hc
def IsBool (R : Bool → World → Prop) (e : Ending) (W : World) : Prop := ∃ b : Bool, e = .returned (.bool b) ∧ R b W
def EachStep (J Jx : Nat → World → Prop) (i : Nat) (b : Bool) (W : World) : Prop := (b = true ∧ J (i + 1) W) ∨ (b = false ∧ Jx (i + 1) W)
def EachPost (J Jx : Nat → World → Prop) (len : Nat) (b : Bool) (W : World) : Prop := (b = true ∧ J len W) ∨ (b = false ∧ ∃ i, i < len ∧ Jx (i + 1) W)
theorem yield_1 (l B m : Nat) (a : Option Addr) (W : World) (R : Bool → World → Prop) (hB : W.cell? ⟨B, 0, none⟩ = some (.func (.yield l) #[] #[]))
    (hy : YieldAt Fence.wide m Tryd.prog l #[.agg #[.pointer a, .pointer none]] W (IsBool R)) :
    Calls Tryd.prog 82 #[.pointer a, .pointer (some ⟨B, 0, none⟩)] W (IsBool R) := by
  refine (callsIn_wide (n := m + 1)).1 ?_
  obtain ⟨fn, tmps, assign, body, hy, hR⟩ := hy
  refine callsIn_of_wp Tryd.func82 rfl trivial ?_ rfl
  simp only [Tryd.ntmps82, List.size_toArray, List.length_cons, List.length_nil, Nat.reduceAdd, Nat.reduceSub, Array.replicate_succ, Array.replicate_zero, List.push_toArray, List.append_toArray, List.nil_append, List.cons_append]
  gi_wp2
  refine hR.mono ?_
  rintro e W1 ⟨b, rfl, hr⟩
  gi_wp2
  go_ret
  exact ⟨b, rfl, hr⟩
theorem yield_2 (l B m : Nat) (a : Option Addr) (W : World) (R : Bool → World → Prop) (hB : W.cell? ⟨B, 0, none⟩ = some (.func (.yield l) #[] #[]))
    (hy : YieldAt Fence.wide m Tryd.prog l #[.agg #[.pointer a, .pointer none]] W (IsBool R)) :
    Calls Tryd.prog 83 #[.pointer a, .pointer (some ⟨B, 0, none⟩)] W (IsBool R) := by
  refine (callsIn_wide (n := m + 1)).1 ?_
  obtain ⟨fn, tmps, assign, body, hy, hR⟩ := hy
  refine callsIn_of_wp Tryd.func83 rfl trivial ?_ rfl
  simp only [Tryd.ntmps83, List.size_toArray, List.length_cons, List.length_nil, Nat.reduceAdd, Nat.reduceSub, Array.replicate_succ, Array.replicate_zero, List.push_toArray, List.append_toArray, List.nil_append, List.cons_append]
  gi_wp2
  refine hR.mono ?_
  rintro e W1 ⟨b, rfl, hr⟩
  gi_wp2
  go_ret
  exact ⟨b, rfl, hr⟩
theorem yield_3 (l B m : Nat) (a : Option Addr) (W : World) (R : Bool → World → Prop) (hB : W.cell? ⟨B, 0, none⟩ = some (.func (.yield l) #[] #[]))
    (hy : YieldAt Fence.wide m Tryd.prog l #[.agg #[.pointer a, .pointer none]] W (IsBool R)) :
    Calls Tryd.prog 84 #[.pointer a, .pointer (some ⟨B, 0, none⟩)] W (IsBool R) := by
  refine (callsIn_wide (n := m + 1)).1 ?_
  obtain ⟨fn, tmps, assign, body, hy, hR⟩ := hy
  refine callsIn_of_wp Tryd.func84 rfl trivial ?_ rfl
  simp only [Tryd.ntmps84, List.size_toArray, List.length_cons, List.length_nil, Nat.reduceAdd, Nat.reduceSub, Array.replicate_succ, Array.replicate_zero, List.push_toArray, List.append_toArray, List.nil_append, List.cons_append]
  gi_wp2
  refine hR.mono ?_
  rintro e W1 ⟨b, rfl, hr⟩
  gi_wp2
  go_ret
  exact ⟨b, rfl, hr⟩
theorem yield_4 (l B m : Nat) (a : Option Addr) (W : World) (R : Bool → World → Prop) (hB : W.cell? ⟨B, 0, none⟩ = some (.func (.yield l) #[] #[]))
    (hy : YieldAt Fence.wide m Tryd.prog l #[.agg #[.pointer none, .pointer a]] W (IsBool R)) :
    Calls Tryd.prog 85 #[.pointer a, .pointer (some ⟨B, 0, none⟩)] W (IsBool R) := by
  refine (callsIn_wide (n := m + 1)).1 ?_
  obtain ⟨fn, tmps, assign, body, hy, hR⟩ := hy
  refine callsIn_of_wp Tryd.func85 rfl trivial ?_ rfl
  simp only [Tryd.ntmps85, List.size_toArray, List.length_cons, List.length_nil, Nat.reduceAdd, Nat.reduceSub, Array.replicate_succ, Array.replicate_zero, List.push_toArray, List.append_toArray, List.nil_append, List.cons_append]
  gi_wp2
  refine hR.mono ?_
  rintro e W1 ⟨b, rfl, hr⟩
  gi_wp2
  go_ret
  exact ⟨b, rfl, hr⟩
theorem yield_5 (l B m : Nat) (a : Option Addr) (W : World) (R : Bool → World → Prop) (hB : W.cell? ⟨B, 0, none⟩ = some (.func (.yield l) #[] #[]))
    (hy : YieldAt Fence.wide m Tryd.prog l #[.agg #[.pointer none, .pointer a]] W (IsBool R)) :
    Calls Tryd.prog 86 #[.pointer a, .pointer (some ⟨B, 0, none⟩)] W (IsBool R) := by
  refine (callsIn_wide (n := m + 1)).1 ?_
  obtain ⟨fn, tmps, assign, body, hy, hR⟩ := hy
  refine callsIn_of_wp Tryd.func86 rfl trivial ?_ rfl
  simp only [Tryd.ntmps86, List.size_toArray, List.length_cons, List.length_nil, Nat.reduceAdd, Nat.reduceSub, Array.replicate_succ, Array.replicate_zero, List.push_toArray, List.append_toArray, List.nil_append, List.cons_append]
  gi_wp2
  refine hR.mono ?_
  rintro e W1 ⟨b, rfl, hr⟩
  gi_wp2
  go_ret
  exact ⟨b, rfl, hr⟩
theorem each_1 (A : Option Addr) (len cap B : Nat) (J Jx : Nat → World → Prop) (hA : 0 < len → ∃ ad, A = some ad) (hlen : len ≤ 9223372036854775807)
    (hf : ∀ (i : Nat) (ad : Addr) (W : World), i < len → A = some ad → J i W → Calls Tryd.prog 82 #[.pointer (some (ad.add (i * 6))), .pointer (some ⟨B, 0, none⟩)] W (IsBool (EachStep J Jx i)))
    (W : World) (h0 : J 0 W) :
    Calls Tryd.prog 81 #[.slice A len cap, .func (.func 82) #[] #[.pointer (some ⟨B, 0, none⟩)]] W (IsBool (EachPost J Jx len)) := by
  go_enter Tryd.func81, Tryd.ntmps81
  go_wp2
  go_loopw [8] (fun t8 wr => ∃ i : Nat, i ≤ len ∧ t8 = .int .i64 i ∧ J i wr) (fun t8 _ => len - (intOf t8).toNat)
  case atStart => exact ⟨0, Nat.zero_le _, rfl, h0⟩
  case round =>
    obtain ⟨i, hi, rfl, hJ⟩ := hrel
    by_cases hlt : i < len
    · obtain ⟨ad, rfl⟩ := hA (by omega)
      have hc := hf i ad wr hlt rfl hJ
      go_wp2_with (go_at_call 82; refine hc.mono ?_; rintro e W1 ⟨b, rfl, hr⟩; rcases hr with ⟨rfl, hr⟩ | ⟨rfl, hr⟩)
      · exact ⟨⟨i + 1, by omega, by go_num, hr⟩, by simp [intOf]; omega⟩
      · go_ret
        exact ⟨false, rfl, .inr ⟨rfl, i, hlt, hr⟩⟩
    · go_wp2
      go_ret
      obtain rfl : i = len := by omega
      exact ⟨true, rfl, .inl ⟨rfl, hJ⟩⟩
theorem each_2 (A : Option Addr) (len cap B : Nat) (J Jx : Nat → World → Prop) (hA : 0 < len → ∃ ad, A = some ad) (hlen : len ≤ 9223372036854775807)
    (hf : ∀ (i : Nat) (ad : Addr) (W : World), i < len → A = some ad → J i W → Calls Tryd.prog 83 #[.pointer (some (ad.add (i * 6))), .pointer (some ⟨B, 0, none⟩)] W (IsBool (EachStep J Jx i)))
    (W : World) (h0 : J 0 W) :
    Calls Tryd.prog 81 #[.slice A len cap, .func (.func 83) #[] #[.pointer (some ⟨B, 0, none⟩)]] W (IsBool (EachPost J Jx len)) := by
  go_enter Tryd.func81, Tryd.ntmps81
  go_wp2
  go_loopw [8] (fun t8 wr => ∃ i : Nat, i ≤ len ∧ t8 = .int .i64 i ∧ J i wr) (fun t8 _ => len - (intOf t8).toNat)
  case atStart => exact ⟨0, Nat.zero_le _, rfl, h0⟩
  case round =>
    obtain ⟨i, hi, rfl, hJ⟩ := hrel
    by_cases hlt : i < len
    · obtain ⟨ad, rfl⟩ := hA (by omega)
      have hc := hf i ad wr hlt rfl hJ
      go_wp2_with (go_at_call 83; refine hc.mono ?_; rintro e W1 ⟨b, rfl, hr⟩; rcases hr with ⟨rfl, hr⟩ | ⟨rfl, hr⟩)
      · exact ⟨⟨i + 1, by omega, by go_num, hr⟩, by simp [intOf]; omega⟩
      · go_ret
        exact ⟨false, rfl, .inr ⟨rfl, i, hlt, hr⟩⟩
    · go_wp2
      go_ret
      obtain rfl : i = len := by omega
      exact ⟨true, rfl, .inl ⟨rfl, hJ⟩⟩
theorem each_3 (A : Option Addr) (len cap B : Nat) (J Jx : Nat → World → Prop) (hA : 0 < len → ∃ ad, A = some ad) (hlen : len ≤ 9223372036854775807)
    (hf : ∀ (i : Nat) (ad : Addr) (W : World), i < len → A = some ad → J i W → Calls Tryd.prog 84 #[.pointer (some (ad.add (i * 6))), .pointer (some ⟨B, 0, none⟩)] W (IsBool (EachStep J Jx i)))
    (W : World) (h0 : J 0 W) :
    Calls Tryd.prog 81 #[.slice A len cap, .func (.func 84) #[] #[.pointer (some ⟨B, 0, none⟩)]] W (IsBool (EachPost J Jx len)) := by
  go_enter Tryd.func81, Tryd.ntmps81
  go_wp2
  go_loopw [8] (fun t8 wr => ∃ i : Nat, i ≤ len ∧ t8 = .int .i64 i ∧ J i wr) (fun t8 _ => len - (intOf t8).toNat)
  case atStart => exact ⟨0, Nat.zero_le _, rfl, h0⟩
  case round =>
    obtain ⟨i, hi, rfl, hJ⟩ := hrel
    by_cases hlt : i < len
    · obtain ⟨ad, rfl⟩ := hA (by omega)
      have hc := hf i ad wr hlt rfl hJ
      go_wp2_with (go_at_call 84; refine hc.mono ?_; rintro e W1 ⟨b, rfl, hr⟩; rcases hr with ⟨rfl, hr⟩ | ⟨rfl, hr⟩)
      · exact ⟨⟨i + 1, by omega, by go_num, hr⟩, by simp [intOf]; omega⟩
      · go_ret
        exact ⟨false, rfl, .inr ⟨rfl, i, hlt, hr⟩⟩
    · go_wp2
      go_ret
      obtain rfl : i = len := by omega
      exact ⟨true, rfl, .inl ⟨rfl, hJ⟩⟩
theorem each_4 (A : Option Addr) (len cap B : Nat) (J Jx : Nat → World → Prop) (hA : 0 < len → ∃ ad, A = some ad) (hlen : len ≤ 9223372036854775807)
    (hf : ∀ (i : Nat) (ad : Addr) (W : World), i < len → A = some ad → J i W → Calls Tryd.prog 85 #[.pointer (some (ad.add (i * 10))), .pointer (some ⟨B, 0, none⟩)] W (IsBool (EachStep J Jx i)))
    (W : World) (h0 : J 0 W) :
    Calls Tryd.prog 59 #[.slice A len cap, .func (.func 85) #[] #[.pointer (some ⟨B, 0, none⟩)]] W (IsBool (EachPost J Jx len)) := by
  go_enter Tryd.func59, Tryd.ntmps59
  go_wp2
  go_loopw [8] (fun t8 wr => ∃ i : Nat, i ≤ len ∧ t8 = .int .i64 i ∧ J i wr) (fun t8 _ => len - (intOf t8).toNat)
  case atStart => exact ⟨0, Nat.zero_le _, rfl, h0⟩
  case round =>
    obtain ⟨i, hi, rfl, hJ⟩ := hrel
    by_cases hlt : i < len
    · obtain ⟨ad, rfl⟩ := hA (by omega)
      have hc := hf i ad wr hlt rfl hJ
      go_wp2_with (go_at_call 85; refine hc.mono ?_; rintro e W1 ⟨b, rfl, hr⟩; rcases hr with ⟨rfl, hr⟩ | ⟨rfl, hr⟩)
      · exact ⟨⟨i + 1, by omega, by go_num, hr⟩, by simp [intOf]; omega⟩
      · go_ret
        exact ⟨false, rfl, .inr ⟨rfl, i, hlt, hr⟩⟩
    · go_wp2
      go_ret
      obtain rfl : i = len := by omega
      exact ⟨true, rfl, .inl ⟨rfl, hJ⟩⟩
theorem each_5 (A : Option Addr) (len cap B : Nat) (J Jx : Nat → World → Prop) (hA : 0 < len → ∃ ad, A = some ad) (hlen : len ≤ 9223372036854775807)
    (hf : ∀ (i : Nat) (ad : Addr) (W : World), i < len → A = some ad → J i W → Calls Tryd.prog 86 #[.pointer (some (ad.add (i * 10))), .pointer (some ⟨B, 0, none⟩)] W (IsBool (EachStep J Jx i)))
    (W : World) (h0 : J 0 W) :
    Calls Tryd.prog 59 #[.slice A len cap, .func (.func 86) #[] #[.pointer (some ⟨B, 0, none⟩)]] W (IsBool (EachPost J Jx len)) := by
  go_enter Tryd.func59, Tryd.ntmps59
  go_wp2
  go_loopw [8] (fun t8 wr => ∃ i : Nat, i ≤ len ∧ t8 = .int .i64 i ∧ J i wr) (fun t8 _ => len - (intOf t8).toNat)
  case atStart => exact ⟨0, Nat.zero_le _, rfl, h0⟩
  case round =>
    obtain ⟨i, hi, rfl, hJ⟩ := hrel
    by_cases hlt : i < len
    · obtain ⟨ad, rfl⟩ := hA (by omega)
      have hc := hf i ad wr hlt rfl hJ
      go_wp2_with (go_at_call 86; refine hc.mono ?_; rintro e W1 ⟨b, rfl, hr⟩; rcases hr with ⟨rfl, hr⟩ | ⟨rfl, hr⟩)
      · exact ⟨⟨i + 1, by omega, by go_num, hr⟩, by simp [intOf]; omega⟩
      · go_ret
        exact ⟨false, rfl, .inr ⟨rfl, i, hlt, hr⟩⟩
    · go_wp2
      go_ret
      obtain rfl : i = len := by omega
      exact ⟨true, rfl, .inl ⟨rfl, hJ⟩⟩
end Go.Proofs.YtnjnadlgndjnbaaDoor.As
namespace Go.Proofs.YtnjnadlgndjnbaaDoor.As
open Go.RowKit Go.Shelf
attribute [local go_sem] Oper.semAt_some
theorem cell_new (W : World) (v : Value) (t : TypeId) : (W.alloc (.cells #[v] t)).cell? ⟨W.heap.size, 0, none⟩ = some v := by
  have h : (W.alloc (.cells #[v] t)).heap[W.heap.size]? = some (.cells #[v] t (0, 0)) := World.alloc_heap_new W _
  unfold World.cell?; rw [h]; rfl
theorem cell_alloc_a {W : World} {a : Addr} {v : Value} (o : Obj) (h : W.cell? a = some v) : (W.alloc o).cell? a = some v := cell_kept h (World.grownBy_alloc W o none) (fun r e => by cases e)
def Round {α : Type} (Bc m l : Nat) (val : α → Value) (N : Nat) (J Jx : List α → World → Prop) : Prop :=
  ∀ pre x W1, J pre W1 → pre.length < N → YieldAt Fence.wide m Tryd.prog l #[val x] W1 fun e W' =>
    (e = .returned (.bool true) ∧ J (pre ++ [x]) W' ∧ KpB Bc W1 W') ∨ (e = .returned (.bool false) ∧ Jx (pre ++ [x]) W')
def SeqPost {α : Type} (xs : List α) (J Jx : List α → World → Prop) (e : Ending) (W' : World) : Prop :=
  (∃ v, e = .returned v) ∧ ((∃ ys, ys = xs ∧ J ys W') ∨ (∃ pre, pre <+: xs ∧ Jx pre W'))
def Jn {α : Type} (Bc : Nat) (W0 : World) (done part : List α) (J : List α → World → Prop) (i : Nat) (V : World) : Prop := J (done ++ part.take i) V ∧ KpB Bc W0 V
def Jxn {α : Type} (done part : List α) (Jx : List α → World → Prop) (i : Nat) (V : World) : Prop := Jx (done ++ part.take i) V
theorem round_step {α : Type} {Bc m l N : Nat} {val : α → Value} {J Jx : List α → World → Prop} (hY : Round Bc m l val N J Jx) (W0 : World) (done part : List α) (i : Nat) (hi : i < part.length) (hN : done.length + part.length ≤ N) (V : World) (h : Jn Bc W0 done part J i V) :
    YieldAt Fence.wide m Tryd.prog l #[val part[i]] V (IsBool (EachStep (Jn Bc W0 done part J) (Jxn done part Jx) i)) := by
  obtain ⟨hj, hk⟩ := h
  have hl : (done ++ part.take i).length < N := by rw [List.length_append, List.length_take]; omega
  have e : done ++ part.take i ++ [part[i]] = done ++ part.take (i + 1) := by rw [List.append_assoc, List.take_append_getElem]
  refine YieldAt.mono (hY _ part[i] V hj hl) fun e' W' h => ?_
  rcases h with ⟨rfl, h1, h2⟩ | ⟨rfl, h1⟩
  · exact ⟨true, rfl, .inl ⟨rfl, by rw [e] at h1; exact h1, hk.trans h2⟩⟩
  · exact ⟨false, rfl, .inr ⟨rfl, by rw [e] at h1; exact h1⟩⟩
theorem take_prefix {α : Type} (done part rest : List α) (i : Nat) : (done ++ part.take i) <+: (done ++ part ++ rest) := by
  rw [List.append_assoc]
  exact (List.prefix_append_right_inj _).2 ((List.take_prefix i part).trans (List.prefix_append _ _))
set_option maxRecDepth 100000 in
theorem seq_ex {α : Type} (val : α → Value) (xs : List α) (Bc Bn : Nat) (a : Addr) (A : Option Addr) (cap m l : Nat) (J Jx : List α → World → Prop) (W : World)
    (hJ : AbidesFrom W.heap.size J) (hY : Round Bc m l val xs.length J Jx) (h0 : J [] W) (hBc : Bc < W.heap.size)
    (c0 : W.cell? ⟨Bn, 0, none⟩ = some (.pointer (some a))) (c5 : W.cell? ⟨a.block, a.off + 5, none⟩ = some (.slice A xs.length cap)) (hA : 0 < xs.length → ∃ ad, A = some ad) (hlen : xs.length ≤ 9223372036854775807)
    (hval : ∀ (i : Nat) (h : i < xs.length) (ad : Addr), A = some ad → val xs[i] = .agg #[.pointer (some (ad.add (i * 6))), .pointer none]) :
    Calls Tryd.prog 80 #[.func (.yield l) #[] #[], .pointer (some ⟨Bn, 0, none⟩)] W (SeqPost xs J Jx) := by
  have hb := cell_new W (.func (.yield l) #[] #[]) 140
  generalize hW1 : W.alloc (.cells #[.func (.yield l) #[] #[]] 140) = W1 at hb
  have h01 : J [] W1 := by rw [← hW1]; exact hJ _ _ _ none h0 (World.grownBy_alloc W _ none) (fun r e => by cases e)
  have hc := each_1 A xs.length cap W.heap.size (Jn Bc W1 [] xs J) (Jxn [] xs Jx) hA hlen (fun i ad V hi hAd hj => by
    have hy := round_step hY W1 [] xs i hi (by simp) V hj
    rw [hval i hi ad hAd] at hy
    exact yield_1 l W.heap.size m _ V _ (hj.2.cell (p := ⟨W.heap.size, 0, none⟩) (by simp; omega) hb) hy) W1 ⟨h01, KpB.refl _ _⟩
  have HC := Lx.Hd.mk hc
  have d0 : W1.cell? ⟨Bn, 0, none⟩ = some (.pointer (some a)) := by rw [← hW1]; exact cell_alloc_a _ c0
  have d5 : W1.cell? ⟨a.block, a.off + 5, none⟩ = some (.slice A xs.length cap) := by rw [← hW1]; exact cell_alloc_a _ c5
  subst hW1
  clear hc hY hJ hval hlen h01 hb
  go_enter Tryd.func80, Tryd.ntmps80
  go_wp2_with (go_at_call 81; refine HC.out.mono ?_; rintro e W2 ⟨b, rfl, hb⟩)
  go_end0
  refine ⟨⟨_, rfl⟩, ?_⟩
  rcases hb with ⟨rfl, hj, _⟩ | ⟨rfl, i, hi, hx⟩
  · exact .inl ⟨_, rfl, by rw [List.nil_append, List.take_length] at hj; exact hj⟩
  · exact .inr ⟨_, List.take_prefix _ _, hx⟩
structure Part {α : Type} (ex : Bool) (val : α → Value) (part : List α) (A : Option Addr) : Prop where
  hA : 0 < part.length → ∃ ad, A = some ad
  hlen : part.length ≤ 9223372036854775807
  hval : ∀ (i : Nat) (h : i < part.length) (ad : Addr), A = some ad → val part[i] = if ex then .agg #[.pointer (some (ad.add (i * 6))), .pointer none] else .agg #[.pointer none, .pointer (some (ad.add (i * 10)))]
theorem part_2 {α : Type} {val : α → Value} {part : List α} {A : Option Addr} (P : Part true val part A) {Bc m l N B cap : Nat} {J Jx : List α → World → Prop} (hY : Round Bc m l val N J Jx) (W0 : World) (done : List α) (hN : done.length + part.length ≤ N)
    (hB : B ≠ Bc) (hb : W0.cell? ⟨B, 0, none⟩ = some (.func (.yield l) #[] #[])) (V : World) (hj : J done V) (hk : KpB Bc W0 V) :
    Calls Tryd.prog 81 #[.slice A part.length cap, .func (.func 83) #[] #[.pointer (some ⟨B, 0, none⟩)]] V (IsBool (EachPost (Jn Bc W0 done part J) (Jxn done part Jx) part.length)) :=
  each_2 A part.length cap B (Jn Bc W0 done part J) (Jxn done part Jx) P.hA P.hlen (fun i ad V hi hAd hj => by
    have hy := round_step hY W0 done part i hi hN V hj
    rw [P.hval i hi ad hAd] at hy
    exact yield_2 l B m _ V _ (hj.2.cell (p := ⟨B, 0, none⟩) hB hb) hy) V ⟨by rw [List.take_zero, List.append_nil]; exact hj, hk⟩
theorem part_3 {α : Type} {val : α → Value} {part : List α} {A : Option Addr} (P : Part true val part A) {Bc m l N B cap : Nat} {J Jx : List α → World → Prop} (hY : Round Bc m l val N J Jx) (W0 : World) (done : List α) (hN : done.length + part.length ≤ N)
    (hB : B ≠ Bc) (hb : W0.cell? ⟨B, 0, none⟩ = some (.func (.yield l) #[] #[])) (V : World) (hj : J done V) (hk : KpB Bc W0 V) :
    Calls Tryd.prog 81 #[.slice A part.length cap, .func (.func 84) #[] #[.pointer (some ⟨B, 0, none⟩)]] V (IsBool (EachPost (Jn Bc W0 done part J) (Jxn done part Jx) part.length)) :=
  each_3 A part.length cap B (Jn Bc W0 done part J) (Jxn done part Jx) P.hA P.hlen (fun i ad V hi hAd hj => by
    have hy := round_step hY W0 done part i hi hN V hj
    rw [P.hval i hi ad hAd] at hy
    exact yield_3 l B m _ V _ (hj.2.cell (p := ⟨B, 0, none⟩) hB hb) hy) V ⟨by rw [List.take_zero, List.append_nil]; exact hj, hk⟩
theorem part_4 {α : Type} {val : α → Value} {part : List α} {A : Option Addr} (P : Part false val part A) {Bc m l N B cap : Nat} {J Jx : List α → World → Prop} (hY : Round Bc m l val N J Jx) (W0 : World) (done : List α) (hN : done.length + part.length ≤ N)
    (hB : B ≠ Bc) (hb : W0.cell? ⟨B, 0, none⟩ = some (.func (.yield l) #[] #[])) (V : World) (hj : J done V) (hk : KpB Bc W0 V) :
    Calls Tryd.prog 59 #[.slice A part.length cap, .func (.func 85) #[] #[.pointer (some ⟨B, 0, none⟩)]] V (IsBool (EachPost (Jn Bc W0 done part J) (Jxn done part Jx) part.length)) :=
  each_4 A part.length cap B (Jn Bc W0 done part J) (Jxn done part Jx) P.hA P.hlen (fun i ad V hi hAd hj => by
    have hy := round_step hY W0 done part i hi hN V hj
    rw [P.hval i hi ad hAd] at hy
    exact yield_4 l B m _ V _ (hj.2.cell (p := ⟨B, 0, none⟩) hB hb) hy) V ⟨by rw [List.take_zero, List.append_nil]; exact hj, hk⟩
theorem part_5 {α : Type} {val : α → Value} {part : List α} {A : Option Addr} (P : Part false val part A) {Bc m l N B cap : Nat} {J Jx : List α → World → Prop} (hY : Round Bc m l val N J Jx) (W0 : World) (done : List α) (hN : done.length + part.length ≤ N)
    (hB : B ≠ Bc) (hb : W0.cell? ⟨B, 0, none⟩ = some (.func (.yield l) #[] #[])) (V : World) (hj : J done V) (hk : KpB Bc W0 V) :
    Calls Tryd.prog 59 #[.slice A part.length cap, .func (.func 86) #[] #[.pointer (some ⟨B, 0, none⟩)]] V (IsBool (EachPost (Jn Bc W0 done part J) (Jxn done part Jx) part.length)) :=
  each_5 A part.length cap B (Jn Bc W0 done part J) (Jxn done part Jx) P.hA P.hlen (fun i ad V hi hAd hj => by
    have hy := round_step hY W0 done part i hi hN V hj
    rw [P.hval i hi ad hAd] at hy
    exact yield_5 l B m _ V _ (hj.2.cell (p := ⟨B, 0, none⟩) hB hb) hy) V ⟨by rw [List.take_zero, List.append_nil]; exact hj, hk⟩
set_option maxRecDepth 100000 in
theorem seq_st {α : Type} (val : α → Value) (x1 x2 x3 x4 : List α) (Bc Bn : Nat) (a : Addr) (A1 A2 A3 A4 : Option Addr) (p1 p2 p3 p4 m l : Nat) (J Jx : List α → World → Prop) (W : World)
    (hJ : AbidesFrom W.heap.size J) (hY : Round Bc m l val (x1 ++ x2 ++ x3 ++ x4).length J Jx) (h0 : J [] W) (hBc : Bc < W.heap.size) (hBn : Bn ≠ Bc) (hab : a.block ≠ Bc)
    (c0 : W.cell? ⟨Bn, 0, none⟩ = some (.pointer none)) (c1 : W.cell? ⟨Bn, 1, none⟩ = some (.pointer (some a)))
    (s1 : W.cell? ⟨a.block, a.off + 6, none⟩ = some (.slice A1 x1.length p1)) (s2 : W.cell? ⟨a.block, a.off + 7, none⟩ = some (.slice A2 x2.length p2)) (s3 : W.cell? ⟨a.block, a.off + 8, none⟩ = some (.slice A3 x3.length p3)) (s4 : W.cell? ⟨a.block, a.off + 9, none⟩ = some (.slice A4 x4.length p4))
    (P1 : Part true val x1 A1) (P2 : Part true val x2 A2) (P3 : Part false val x3 A3) (P4 : Part false val x4 A4) :
    Calls Tryd.prog 80 #[.func (.yield l) #[] #[], .pointer (some ⟨Bn, 0, none⟩)] W (SeqPost (x1 ++ x2 ++ x3 ++ x4) J Jx) := by
  have hb := cell_new W (.func (.yield l) #[] #[]) 140
  generalize hW1 : W.alloc (.cells #[.func (.yield l) #[] #[]] 140) = W1 at hb
  have h01 : J [] W1 := by rw [← hW1]; exact hJ _ _ _ none h0 (World.grownBy_alloc W _ none) (fun r e => by cases e)
  have hBB : W.heap.size ≠ Bc := by omega
  have al : ∀ {p : Addr} {v : Value}, W.cell? p = some v → W1.cell? p = some v := fun h => by rw [← hW1]; exact cell_alloc_a _ h
  have d0 := al c0
  have d1 := al c1
  have d2 := al s1
  have n0 : ([] : List α).length + x1.length ≤ (x1 ++ x2 ++ x3 ++ x4).length := by simp <;> omega
  have n1 : x1.length + x2.length ≤ (x1 ++ x2 ++ x3 ++ x4).length := by simp <;> omega
  have n2 : (x1 ++ x2).length + x3.length ≤ (x1 ++ x2 ++ x3 ++ x4).length := by simp <;> omega
  have n3 : (x1 ++ x2 ++ x3).length + x4.length ≤ (x1 ++ x2 ++ x3 ++ x4).length := by simp <;> omega
  have H1 := Lx.Hd.mk (part_2 P1 (cap := p1) hY W1 [] n0 hBB hb W1 h01 (KpB.refl _ _))
  have H2 := Lx.Hd.mk (fun V hj hk => part_3 P2 (cap := p2) hY W1 x1 n1 hBB hb V hj hk)
  have H3 := Lx.Hd.mk (fun V hj hk => part_4 P3 (cap := p3) hY W1 (x1 ++ x2) n2 hBB hb V hj hk)
  have H4 := Lx.Hd.mk (fun V hj hk => part_5 P4 (cap := p4) hY W1 (x1 ++ x2 ++ x3) n3 hBB hb V hj hk)
  have K1 := Lx.Hd.mk (fun {V : World} (hk : KpB Bc W1 V) => hk.cell (p := ⟨Bn, 1, none⟩) hBn (al c1))
  have K2 := Lx.Hd.mk (fun {V : World} (hk : KpB Bc W1 V) => hk.cell (p := ⟨a.block, a.off + 7, none⟩) hab (al s2))
  have K3 := Lx.Hd.mk (fun {V : World} (hk : KpB Bc W1 V) => hk.cell (p := ⟨a.block, a.off + 8, none⟩) hab (al s3))
  have K4 := Lx.Hd.mk (fun {V : World} (hk : KpB Bc W1 V) => hk.cell (p := ⟨a.block, a.off + 9, none⟩) hab (al s4))
  clear al
  subst hW1
  clear hY hJ h01 hb n0 n1 n2 n3 P1 P2 P3 P4 c0 c1 s1 s2 s3 s4
  go_enter Tryd.func80, Tryd.ntmps80
  go_wp2_with (first
    | (go_at_call 81; refine H1.out.mono ?_; clear H1; rintro e W2 ⟨b, rfl, hb⟩; rcases hb with ⟨rfl, hj2⟩ | ⟨rfl, hx2⟩; (have e1 := K1.out hj2.2; have e2 := K2.out hj2.2; have J2 := Lx.Hd.mk hj2; clear hj2))
    | (go_at_call 81; refine (H2.out _ (by have := J2.out.1; rwa [List.take_length] at this) J2.out.2).mono ?_; clear H2; rintro e W3 ⟨b, rfl, hb⟩; rcases hb with ⟨rfl, hj3⟩ | ⟨rfl, hx3⟩; (have f1 := K1.out hj3.2; have f2 := K3.out hj3.2; have J3 := Lx.Hd.mk hj3; clear hj3))
    | (go_at_call 59; refine (H3.out _ (by have := J3.out.1; rwa [List.take_length] at this) J3.out.2).mono ?_; clear H3; rintro e W4 ⟨b, rfl, hb⟩; rcases hb with ⟨rfl, hj4⟩ | ⟨rfl, hx4⟩; (have g1 := K1.out hj4.2; have g2 := K4.out hj4.2; have J4 := Lx.Hd.mk hj4; clear hj4))
    | (go_at_call 59; refine (H4.out _ (by have := J4.out.1; rwa [List.take_length] at this) J4.out.2).mono ?_; clear H4; rintro e W5 ⟨b, rfl, hb⟩; rcases hb with ⟨rfl, hj5⟩ | ⟨rfl, hx5⟩))
  all_goals (go_end0; refine ⟨⟨_, rfl⟩, ?_⟩)
  · exact .inl ⟨_, rfl, by have := hj5.1; rwa [List.take_length] at this⟩
  · obtain ⟨i, _, hx⟩ := hx5
    exact .inr ⟨_, by have := take_prefix (x1 ++ x2 ++ x3) x4 [] (i + 1); rwa [List.append_nil] at this, hx⟩
  · obtain ⟨i, _, hx⟩ := hx4
    exact .inr ⟨_, take_prefix (x1 ++ x2) x3 x4 (i + 1), hx⟩
  · obtain ⟨i, _, hx⟩ := hx3
    exact .inr ⟨_, by have := take_prefix x1 x2 (x3 ++ x4) (i + 1); rwa [← List.append_assoc] at this, hx⟩
  · obtain ⟨i, _, hx⟩ := hx2
    exact .inr ⟨_, by have := take_prefix [] x1 (x2 ++ x3 ++ x4) (i + 1); rwa [List.nil_append, List.nil_append, ← List.append_assoc, ← List.append_assoc] at this, hx⟩
end Go.Proofs.YtnjnadlgndjnbaaDoor.As
namespace Go.Proofs.YtnjnadlgndjnbaaDoor.A
open Go.RowKit Go.Shelf Go.Proofs.YtnjnadlgndjnbaaDoor.As Go.Proofs.YtnjnadlgndjnbaaDoorW.PrintWords Go.Proofs.YtnjnadlgndjnbaaDoorW.PrintLast Go.Proofs.YtnjnadlgndjnbaaDoorW.PrintMore
abbrev SE := S26
abbrev SS := S57
abbrev kE := k26
abbrev kS := k57
mutual
def sizeE : SE → Nat
  | ⟨_, _, _, _, _, l⟩ => 1 + sizeEs l
def sizeEs : List SE → Nat
  | [] => 0
  | e :: l => sizeE e + sizeEs l
end
mutual
def deepE : SE → Nat
  | ⟨_, _, _, _, _, l⟩ => 1 + deepEs l
def deepEs : List SE → Nat
  | [] => 0
  | e :: l => max (deepE e) (deepEs l)
end
mutual
def sizeS : SS → Nat
  | ⟨_, _, _, _, _, _, i, x, t, e⟩ => 1 + (sizeEs i + sizeEs x + sizeSs t + sizeSs e)
def sizeSs : List SS → Nat
  | [] => 0
  | s :: l => sizeS s + sizeSs l
end
mutual
def deepS : SS → Nat
  | ⟨_, _, _, _, _, _, i, x, t, e⟩ => 1 + max (max (deepEs i) (deepEs x)) (max (deepSs t) (deepSs e))
def deepSs : List SS → Nat
  | [] => 0
  | s :: l => max (deepS s) (deepSs l)
end
inductive Nd where
  | ex (e : SE)
  | st (s : SS)
def Nd.size : Nd → Nat
  | .ex e => sizeE e
  | .st s => sizeS s
def Nd.deep : Nd → Nat
  | .ex e => deepE e
  | .st s => deepS s
def Nd.kids : Nd → List Nd
  | .ex e => e.f5.map .ex
  | .st s => s.f6.map .ex ++ s.f7.map .ex ++ s.f8.map .st ++ s.f9.map .st
def sizes (l : List Nd) : Nat := (l.map Nd.size).sum
def deeps (l : List Nd) : Nat := l.foldl (fun c x => max c x.deep) 0
theorem sizes_ex (l : List SE) : sizes (l.map .ex) = sizeEs l := by
  induction l with
  | nil => rfl
  | cons e l ih => rw [List.map_cons, sizeEs, ← ih]; rfl
theorem sizes_st (l : List SS) : sizes (l.map .st) = sizeSs l := by
  induction l with
  | nil => rfl
  | cons e l ih => rw [List.map_cons, sizeSs, ← ih]; rfl
theorem sizes_append (a b : List Nd) : sizes (a ++ b) = sizes a + sizes b := by unfold sizes; rw [List.map_append, List.sum_append]
theorem Nd.size_kids (n : Nd) : n.size = 1 + sizes n.kids := by
  cases n with
  | ex e => obtain ⟨_, _, _, _, _, l⟩ := e; show sizeE _ = _; rw [sizeE]; unfold Nd.kids; rw [sizes_ex]
  | st s => obtain ⟨_, _, _, _, _, _, i, x, t, e⟩ := s; show sizeS _ = _; rw [sizeS]; unfold Nd.kids; simp only [sizes_append, sizes_ex, sizes_st]
theorem deep_mem_E {l : List SE} {e : SE} (h : e ∈ l) : deepE e ≤ deepEs l := by
  induction l with
  | nil => cases h
  | cons x l ih =>
    rw [deepEs]
    rcases List.mem_cons.1 h with rfl | h
    · omega
    · have := ih h; omega
theorem deep_mem_S {l : List SS} {e : SS} (h : e ∈ l) : deepS e ≤ deepSs l := by
  induction l with
  | nil => cases h
  | cons x l ih =>
    rw [deepSs]
    rcases List.mem_cons.1 h with rfl | h
    · omega
    · have := ih h; omega
theorem Nd.size_mem {l : List Nd} {x : Nd} (h : x ∈ l) : x.size ≤ sizes l := by
  unfold sizes
  induction l with
  | nil => cases h
  | cons y l ih =>
    rw [List.map_cons, List.sum_cons]
    rcases List.mem_cons.1 h with rfl | h
    · omega
    · have := ih h; omega
theorem Nd.deep_kids {n x : Nd} (h : x ∈ n.kids) : x.deep < n.deep := by
  cases n with
  | ex e =>
    obtain ⟨_, _, _, _, _, l⟩ := e
    obtain ⟨y, hy, rfl⟩ := List.mem_map.1 h
    have := deep_mem_E (l := l) hy
    show deepE y < deepE _
    rw [deepE]; omega
  | st s =>
    obtain ⟨_, _, _, _, _, _, i, x, t, e⟩ := s
    show _ < deepS _
    rw [deepS]
    simp only [Nd.kids, List.mem_append, List.mem_map] at h
    rcases h with ((⟨y, hy, rfl⟩ | ⟨y, hy, rfl⟩) | ⟨y, hy, rfl⟩) | ⟨y, hy, rfl⟩
    · have := deep_mem_E hy; show deepE y < _; omega
    · have := deep_mem_E hy; show deepE y < _; omega
    · have := deep_mem_S hy; show deepS y < _; omega
    · have := deep_mem_S hy; show deepS y < _; omega
theorem add_add (a : Addr) (m j : Nat) : (a.add m).add j = a.add (m + j) := by
  unfold Addr.add
  by_cases hj : j = 0
  · subst hj; simp
  · by_cases hm : m = 0
    · subst hm; simp
    · have : ¬ m + j = 0 := by omega
      simp [hj, hm, Nat.add_assoc]
theorem add_ne (a : Addr) (j : Nat) (h : j ≠ 0) : a.add j = ⟨a.block, a.off + j, none⟩ := by unfold Addr.add; rw [if_neg h]
def PtAt {γ : Type} (d : Kd γ) (w : World) (a : Addr) (x : γ) : Prop := ∃ cs, d.K w x cs ∧ ∀ j u, cs[j]? = some u → w.cell? (a.add j) = some u
theorem PtAt.below {γ : Type} {d : Kd γ} {w W : World} {a : Addr} {x : γ} (h : PtAt d w a x) (hb : Below w.heap.size w W) : PtAt d W a x := by
  obtain ⟨cs, hK, hc⟩ := h
  exact ⟨cs, d.K_below hb hK, fun j u hj => pw_cell_below hb (hc j u hj)⟩
theorem PtAt.of_C {γ : Type} {d : Kd γ} {w : World} {ad : Addr} {n : Nat} {l : List γ} (h : d.C w (some ad) n l) (i : Nat) (hi : i < l.length) : PtAt d w (ad.add (i * d.sz)) l[i] := by
  have hn : l.length = n := h.1
  obtain ⟨ad', c, e, _, hK, hc⟩ := Kd.C_get h l[i] (i : Int) (by omega) (by omega)
  obtain rfl := Option.some.inj e
  rw [Int.toNat_natCast] at hK hc
  rw [List.getD_eq_getElem?_getD, List.getElem?_eq_getElem hi] at hK
  exact ⟨c, hK, fun j u hj => by rw [add_add]; exact hc j u hj⟩
def NdAt (w : World) (v : Value) : Nd → Prop
  | .ex e => ∃ a, v = .agg #[.pointer (some a), .pointer none] ∧ PtAt kE w a e
  | .st s => ∃ a, v = .agg #[.pointer none, .pointer (some a)] ∧ PtAt kS w a s
theorem NdAt.below {w W : World} {v : Value} {x : Nd} (h : NdAt w v x) (hb : Below w.heap.size w W) : NdAt W v x := by
  cases x with
  | ex e => obtain ⟨a, rfl, hp⟩ := h; exact ⟨a, rfl, hp.below hb⟩
  | st s => obtain ⟨a, rfl, hp⟩ := h; exact ⟨a, rfl, hp.below hb⟩
abbrev At (w : World) (G : Nd → Prop) := { p : Value × Nd // NdAt w p.1 p.2 ∧ G p.2 }
theorem kid_list {γ : Type} {d : Kd γ} {w : World} {A : Option Addr} {l : List γ} (hC : d.C w A l.length l) (G : Nd → Prop) (mk : γ → Nd) (mkv : Addr → Value) (hm : ∀ x ∈ l, G (mk x)) (hN : ∀ a x, PtAt d w a x → NdAt w (mkv a) (mk x)) :
    ∃ xs : List (At w G), xs.map (·.1.2) = l.map mk ∧ xs.length = l.length ∧ (0 < xs.length → ∃ ad, A = some ad) ∧ ∀ (i : Nat) (h : i < xs.length) (ad : Addr), A = some ad → (xs[i]).1.1 = mkv (ad.add (i * d.sz)) := by
  cases A with
  | none =>
    have : l = [] := by
      cases l with
      | nil => rfl
      | cons x l => obtain ⟨ad, h, _⟩ := hC.2.2 (by simp); cases h
    subst this
    exact ⟨[], rfl, rfl, fun h => absurd h (by simp), fun i h => absurd h (by simp)⟩
  | some ad =>
    refine ⟨List.ofFn fun i : Fin l.length => ⟨(mkv (ad.add (i.1 * d.sz)), mk l[i.1]), hN _ _ (PtAt.of_C hC i.1 i.2), hm _ (List.getElem_mem i.2)⟩, ?_, List.length_ofFn, fun _ => ⟨ad, rfl⟩, fun i h ad' e => ?_⟩
    · rw [List.map_ofFn]
      refine List.ext_getElem (by simp) fun i h1 h2 => ?_
      simp
    · obtain rfl := Option.some.inj e
      simp
end Go.Proofs.YtnjnadlgndjnbaaDoor.A
namespace Go.Proofs.YtnjnadlgndjnbaaDoor.A
open Go.RowKit Go.Shelf Go.Proofs.YtnjnadlgndjnbaaDoor.As Go.Proofs.YtnjnadlgndjnbaaDoorW.PrintWords Go.Proofs.YtnjnadlgndjnbaaDoorW.PrintLast Go.Proofs.YtnjnadlgndjnbaaDoorW.PrintMore
attribute [local go_sem] Oper.semAt_some
theorem children_any (n : Nat) (p q : Value) (w : World) :
    CallsIn Fence.wide n Tryd.prog 72 #[.agg #[p, q]] w fun e w' => e = .returned (.func (.func 80) #[] #[.pointer (some ⟨w.heap.size, 0, none⟩)]) ∧ w' = w.alloc (.cells #[p, q] 97) := by
  refine callsIn_of_wp Tryd.func72 rfl trivial ?_ rfl
  simp only [Tryd.ntmps72, List.size_toArray, List.length_cons, List.length_nil, Nat.reduceAdd, Nat.reduceSub, Array.replicate_succ, Array.replicate_zero, List.push_toArray, List.append_toArray, List.nil_append, List.cons_append]
  gi_wp2
  go_ret
  exact ⟨rfl, rfl⟩
theorem cells_new2 (W : World) (p q : Value) (t : TypeId) : (W.alloc (.cells #[p, q] t)).cell? ⟨W.heap.size, 0, none⟩ = some p ∧ (W.alloc (.cells #[p, q] t)).cell? ⟨W.heap.size, 1, none⟩ = some q := by
  have h : (W.alloc (.cells #[p, q] t)).heap[W.heap.size]? = some (.cells #[p, q] t (0, 0)) := World.alloc_heap_new W _
  constructor <;> (unfold World.cell?; rw [h]; rfl)
theorem lt_of_cell {w : World} {p : Addr} {v : Value} (h : w.cell? p = some v) : p.block < w.heap.size := by
  rcases Nat.lt_or_ge p.block w.heap.size with h' | h'
  · exact h'
  · unfold World.cell? at h
    rw [Array.getElem?_eq_none h'] at h
    cases h
theorem NdAt.agg {w : World} {v : Value} {x : Nd} (h : NdAt w v x) : ∃ p q : Option Addr, v = .agg #[.pointer p, .pointer q] := by
  cases x with
  | ex e => obtain ⟨a, rfl, _⟩ := h; exact ⟨_, _, rfl⟩
  | st s => obtain ⟨a, rfl, _⟩ := h; exact ⟨_, _, rfl⟩
theorem seq_stops (n : Nat) (G : Nd → Prop) (x : Nd) (hG : ∀ y ∈ x.kids, G y) (v p q : Value) (w w1 : World) (Bc Bn : Nat) (hv : v = .agg #[p, q]) (hN : NdAt w v x) (hw : Below w.heap.size w w1) (hBc : w.heap.size ≤ Bc) (hBl : Bc < w1.heap.size) (hBn : Bn ≠ Bc) (hBn1 : Bn < w1.heap.size) (h0 : w1.cell? ⟨Bn, 0, none⟩ = some p) (h1 : w1.cell? ⟨Bn, 1, none⟩ = some q) :
    ∃ xs : List (At w G), xs.map (·.1.2) = x.kids ∧ SeqStopsK Fence.wide n Tryd.prog 80 #[.pointer (some ⟨Bn, 0, none⟩)] (fun y : At w G => #[y.1.1]) (KpB Bc) (fun ys => ys = xs) (fun pre => pre <+: xs) xs.length w1 := by
  cases x with
  | ex e =>
    obtain ⟨a, rfl, cs, hK, hc⟩ := hN
    injection hv with hv
    have hp : p = .pointer (some a) := by injection hv with hv; injection hv with h _; exact h.symm
    obtain ⟨A5, c5, rfl, hl5, hC⟩ := k26_open hK
    have hcell : w.cell? ⟨a.block, a.off + 5, none⟩ = some (.slice A5 e.f5.length c5) := by have := hc 5 _ rfl; rwa [add_ne a 5 (by decide)] at this
    obtain ⟨xs, e1, e2, e3, e4⟩ := kid_list hC G .ex (fun ad => .agg #[.pointer (some ad), .pointer none]) (fun y hy => hG _ (List.mem_map.2 ⟨y, hy, rfl⟩)) (fun a y h => ⟨a, rfl, h⟩)
    refine ⟨xs, e1, fun l J Jx W hW hJ hJx hY hJ0 => ?_⟩
    have hlt : xs.length ≤ 9223372036854775807 := by rw [e2]; have := hC.2.1; omega
    refine callsIn_wide.2 ?_
    refine seq_ex (fun y : At w G => y.1.1) xs Bc Bn a A5 c5 (n - 1) l J Jx W hJ hY hJ0 (Nat.lt_of_lt_of_le hBl hW.size) ?_ ?_ e3 hlt e4
    · rw [← hp]; exact (hW.cell (p := ⟨Bn, 0, none⟩) hBn1).trans h0
    · rw [e2]; exact pw_cell_below (hw.trans (hW.mono hw.size)) hcell
  | st s =>
    obtain ⟨a, rfl, cs, hK, hc⟩ := hN
    injection hv with hv
    have hp : p = .pointer none := by injection hv with hv; injection hv with h _; exact h.symm
    have hq : q = .pointer (some a) := by injection hv with hv; injection hv with _ h; injection h with h _; exact h.symm
    obtain ⟨A5, c5, A6, c6, A7, c7, A8, c8, A9, c9, rfl, l5, C5, l6, C6, l7, C7, l8, C8, l9, C9⟩ := k57_open hK
    have s6 : w.cell? ⟨a.block, a.off + 6, none⟩ = some (.slice A6 s.f6.length c6) := by have := hc 6 _ rfl; rwa [add_ne a 6 (by decide)] at this
    have s7 : w.cell? ⟨a.block, a.off + 7, none⟩ = some (.slice A7 s.f7.length c7) := by have := hc 7 _ rfl; rwa [add_ne a 7 (by decide)] at this
    have s8 : w.cell? ⟨a.block, a.off + 8, none⟩ = some (.slice A8 s.f8.length c8) := by have := hc 8 _ rfl; rwa [add_ne a 8 (by decide)] at this
    have s9 : w.cell? ⟨a.block, a.off + 9, none⟩ = some (.slice A9 s.f9.length c9) := by have := hc 9 _ rfl; rwa [add_ne a 9 (by decide)] at this
    have hlt := lt_of_cell s6
    have mem : ∀ y, y ∈ s.f6.map Nd.ex ∨ y ∈ s.f7.map Nd.ex ∨ y ∈ s.f8.map Nd.st ∨ y ∈ s.f9.map Nd.st → y ∈ (Nd.st s).kids := by
      intro y hy; unfold Nd.kids; simp only [List.mem_append]; rcases hy with h | h | h | h
      · exact .inl (.inl (.inl h))
      · exact .inl (.inl (.inr h))
      · exact .inl (.inr h)
      · exact .inr h
    obtain ⟨x6, a1, a2, a3, a4⟩ := kid_list C6 G .ex (fun ad => .agg #[.pointer (some ad), .pointer none]) (fun y hy => hG _ (mem _ (.inl (List.mem_map.2 ⟨y, hy, rfl⟩)))) (fun a y h => ⟨a, rfl, h⟩)
    obtain ⟨x7, b1, b2, b3, b4⟩ := kid_list C7 G .ex (fun ad => .agg #[.pointer (some ad), .pointer none]) (fun y hy => hG _ (mem _ (.inr (.inl (List.mem_map.2 ⟨y, hy, rfl⟩))))) (fun a y h => ⟨a, rfl, h⟩)
    obtain ⟨x8, d1, d2, d3, d4⟩ := kid_list C8 G .st (fun ad => .agg #[.pointer none, .pointer (some ad)]) (fun y hy => hG _ (mem _ (.inr (.inr (.inl (List.mem_map.2 ⟨y, hy, rfl⟩)))))) (fun a y h => ⟨a, rfl, h⟩)
    obtain ⟨x9, e1, e2, e3, e4⟩ := kid_list C9 G .st (fun ad => .agg #[.pointer none, .pointer (some ad)]) (fun y hy => hG _ (mem _ (.inr (.inr (.inr (List.mem_map.2 ⟨y, hy, rfl⟩)))))) (fun a y h => ⟨a, rfl, h⟩)
    have m6 := C6.2.1
    have m7 := C7.2.1
    have m8 := C8.2.1
    have m9 := C9.2.1
    refine ⟨x6 ++ x7 ++ x8 ++ x9, by simp only [List.map_append, a1, b1, d1, e1]; rfl, fun l J Jx W hW hJ hJx hY hJ0 => ?_⟩
    have up : ∀ {ad : Addr} {u : Value}, w.cell? ad = some u → W.cell? ad = some u := fun h => pw_cell_below (hw.trans (hW.mono hw.size)) h
    refine callsIn_wide.2 ?_
    refine seq_st (fun y : At w G => y.1.1) x6 x7 x8 x9 Bc Bn a A6 A7 A8 A9 c6 c7 c8 c9 (n - 1) l J Jx W hJ hY hJ0 (Nat.lt_of_lt_of_le hBl hW.size) hBn (by show a.block ≠ Bc; have : a.block < w.heap.size := hlt; omega) ?_ ?_ (by rw [a2]; exact up s6) (by rw [b2]; exact up s7) (by rw [d2]; exact up s8) (by rw [e2]; exact up s9)
      ⟨a3, by omega, fun i h ad e => a4 i h ad e⟩ ⟨b3, by omega, fun i h ad e => b4 i h ad e⟩ ⟨d3, by omega, fun i h ad e => d4 i h ad e⟩ ⟨e3, by omega, fun i h ad e => e4 i h ad e⟩
    · rw [← hp]; exact (hW.cell (p := ⟨Bn, 0, none⟩) hBn1).trans h0
    · rw [← hq]; exact (hW.cell (p := ⟨Bn, 1, none⟩) hBn1).trans h1
theorem keeps_of_below {W W' : World} (h : Below W.heap.size W W') : KeepsOthers W W' := ⟨h.size, fun k o hk _ => (h.block k (Array.getElem?_eq_some_iff.1 hk).1).trans hk⟩
theorem _root_.Go.Proofs.YtnjnadlgndjnbaaDoor.As.KpB.setB {B0 : Nat} (W : World) (j : Nat) (u : Value) : KpB B0 W (W.setCell ⟨B0, j, none⟩ u) :=
  ⟨by simp, fun b cs t q hb hc => (Below.heap_setCell W ⟨B0, j, none⟩ u b hb).trans hc⟩
def wsum {G : Nd → Prop} {w : World} (l : List (At w G)) : Int := l.foldl (fun s y => IntKind.i64.wrap (s + (y.1.2.size : Int))) 1
theorem wsum_snoc {G : Nd → Prop} {w : World} (l : List (At w G)) (y : At w G) : wsum (l ++ [y]) = IntKind.i64.wrap (wsum l + (y.1.2.size : Int)) := by unfold wsum; rw [List.foldl_append]; rfl
theorem wsum_from {G : Nd → Prop} {w : World} (l : List (At w G)) : ∀ (c : Nat), c + sizes (l.map (·.1.2)) < 4611686018427387904 → l.foldl (fun s y => IntKind.i64.wrap (s + (y.1.2.size : Int))) (c : Int) = ((c + sizes (l.map (·.1.2)) : Nat) : Int) := by
  induction l with
  | nil => intro c h; rfl
  | cons y l ih =>
    intro c h
    have e : sizes ((y :: l).map (·.1.2)) = y.1.2.size + sizes (l.map (·.1.2)) := rfl
    rw [e] at h ⊢
    have hw : IntKind.i64.wrap ((c : Int) + (y.1.2.size : Int)) = ((c + y.1.2.size : Nat) : Int) := by rw [i64_w]; unfold wrap64; omega
    rw [List.foldl_cons, hw, ih (c + y.1.2.size) (by omega)]
    congr 1; omega
theorem wsum_eq {G : Nd → Prop} {w : World} (l : List (At w G)) (h : 1 + sizes (l.map (·.1.2)) < 4611686018427387904) : wsum l = ((1 + sizes (l.map (·.1.2)) : Nat) : Int) := wsum_from l 1 h
set_option maxRecDepth 100000 in
set_option maxHeartbeats 2000000 in
theorem size_in : ∀ (D : Nat) (x : Nd) (v : Value) (w : World), x.deep ≤ D → x.size < 4611686018427387904 → NdAt w v x → Calls Tryd.prog 56 #[v] w fun e w' => e = .returned (.int .i64 x.size) ∧ Below w.heap.size w w' := by
  intro D; induction D with
  | zero => intro x v w h; cases x with
    | ex e => obtain ⟨_, _, _, _, _, l⟩ := e; have : deepE _ ≤ 0 := h; rw [deepE] at this; omega
    | st s => obtain ⟨_, _, _, _, _, _, i, x, t, e⟩ := s; have : deepS _ ≤ 0 := h; rw [deepS] at this; omega
  | succ D ih =>
    intro x v w hD hs hN
    obtain ⟨pp, qq, hv⟩ := hN.agg
    obtain ⟨p, hp⟩ : ∃ p, Value.pointer pp = p := ⟨_, rfl⟩
    obtain ⟨q, hq⟩ : ∃ q, Value.pointer qq = q := ⟨_, rfl⟩
    rw [hp, hq] at hv
    subst hv
    clear hp hq
    refine (callsIn_wide (n := 9)).1 ?_
    refine callsIn_of_wp_marks Tryd.func56 rfl trivial ?_ rfl
    simp only [Tryd.ntmps56, List.size_toArray, List.length_cons, List.length_nil, Nat.reduceAdd, Nat.reduceSub, Array.replicate_succ, Array.replicate_zero, List.push_toArray, List.append_toArray, List.nil_append, List.cons_append]
    gi_wp2_with (refine ⟨trivial, ?_⟩; gi_at_call 72; refine (children_any _ _ _ _).mono ?_; rintro e w' ⟨rfl, rfl⟩)
    obtain ⟨W0, hW0⟩ : ∃ W0, (((w.alloc (.cells #[p, q] 97)).alloc (.cells #[.int .i64 1] 3)).alloc (.cells #[p, q] 97)) = W0 := ⟨_, rfl⟩
    have hsz : W0.heap.size = w.heap.size + 3 := by rw [← hW0]; simp
    have hw0 : Below w.heap.size w W0 := by rw [← hW0]; exact (((Below.refl _ w).alloc (Nat.le_refl _) _).alloc (by simp <;> omega) _).alloc (by simp <;> omega) _
    have hn2 := cells_new2 ((w.alloc (.cells #[p, q] 97)).alloc (.cells #[.int .i64 1] 3)) p q 97
    have hbx : Boxed W0 (w.heap.size + 1) 3 (.int .i64 1) := by
      rw [← hW0]
      exact (Below.heap_alloc _ _ _ (by simp)).trans (by have := World.alloc_heap_new (w.alloc (.cells #[p, q] 97)) (.cells #[.int .i64 1] 3); rwa [World.size_alloc] at this)
    simp only [World.size_alloc] at hn2
    rw [hW0] at hn2 ⊢
    have hkid : ∀ y ∈ x.kids, y.deep ≤ D ∧ y.size < 4611686018427387904 := fun y hy => ⟨by have := Nd.deep_kids hy; omega, by have h1 := Nd.size_mem hy; have h2 := x.size_kids; omega⟩
    obtain ⟨xs, hxs, hseq⟩ := seq_stops 8 (fun y => y.deep ≤ D ∧ y.size < 4611686018427387904) x hkid (.agg #[p, q]) p q w W0 (w.heap.size + 1) (w.heap.size + 1 + 1) rfl hN hw0 (by omega) (by omega) (by omega) (by omega) hn2.1 hn2.2
    have hsum : wsum xs = (x.size : Int) := by
      rw [wsum_eq xs (by rw [hxs]; have := x.size_kids; omega), hxs, x.size_kids]
    refine wpIn_rangeFunc_ownH (F := Fence.wide) rfl (by omega) (gf := 80) (lb := #[.pointer (some ⟨w.heap.size + 1 + 1, 0, none⟩)]) rfl trivial (enters_of Tryd.func80 (by kernel_rfl) rfl)
      hseq KpB.trans (fun W l o o' _ h hc _ => KpB.putObj W l o o' h hc) (Below.refl _ _) (fun _ => rfl)
      (fun pre W => Boxed W (w.heap.size + 1) 3 (.int .i64 (wsum pre)) ∧ Below w.heap.size w W ∧ W0.heap.size ≤ W.heap.size) (fun _ _ _ => False)
      (OwnFrom.and (Own.from (boxed_own _ _ _) _) (OwnFrom.and (ownFrom_below (Nat.le_refl _) (by omega)) (fun _ _ _ _ hs hg _ => Nat.le_trans hs hg.size))) (fun _ _ _ _ _ h _ _ => h) ⟨hbx, hw0, Nat.le_refl _⟩
      (fun y a' W => ∃ Bx py qy, y.1.1 = .agg #[.pointer py, .pointer qy] ∧ W.heap[Bx]? = some (.cells #[.pointer py, .pointer qy] 97 (0, 0)) ∧ W0.heap.size ≤ Bx ∧
        a' = { tmps := #[.agg #[p, q], .pointer (some ⟨w.heap.size, 0, none⟩), .int .i64 0, .pointer (some ⟨w.heap.size + 1, 0, none⟩), .pointer (some ⟨Bx, 0, none⟩), .agg #[p, q], .func (.func 80) #[] #[.pointer (some ⟨w.heap.size + 1 + 1, 0, none⟩)], y.1.1, undef, undef, undef, undef, undef], defers := [] })
      (fun y a' s W W' row hs hg hr => by
        obtain ⟨Bx, py, qy, h1, h2, h3, h4⟩ := hs
        exact ⟨Bx, py, qy, h1, (hg.block Bx (Array.getElem?_eq_some_iff.1 h2).1 (fun e => by obtain ⟨_, o, ho, hc⟩ := hr Bx e.symm; rw [h2] at ho; cases ho; cases hc)).trans h2, h3, h4⟩) ?assign ?body ?done ?stop
    case assign =>
      rintro l pre y W K ⟨hi1, hi2, hi3⟩ hK
      obtain ⟨py, qy, hy⟩ := y.2.1.agg
      rw [hy]
      gi_wp2
      exact hK _ _ ((KeepsOthers.alloc _ _).from _) (KpB.of_below ((Below.refl _ W).alloc (Nat.le_refl _) _)) ⟨hi1.alloc _, hi2.trans (((Below.refl _ W).alloc (Nat.le_refl _) _).mono hi2.size), by simp; omega⟩ ⟨W.heap.size, py, qy, hy, World.alloc_heap_new _ _, hi3, by rw [hy]⟩
    case body =>
      rintro l pre y a' W hl ⟨r, hr⟩ ⟨hi1, hi2, hi3⟩ ⟨Bx, py, qy, hy, hx, hBx, rfl⟩ hlt
      have hc := hi1.cell
      have hf := hi1.frozen
      have hx0 : W.cell? ⟨Bx, 0, none⟩ = some (.pointer py) := by unfold World.cell?; rw [hx]; rfl
      have hx1 : W.cell? ⟨Bx, 1, none⟩ = some (.pointer qy) := by unfold World.cell?; rw [hx]; rfl
      have hmx : Tryd.prog.follows .mixedOrders = true := by kernel_rfl
      rw [hy]
      gi_wp2
      gi_region_with_o (refine ⟨trivial, ?_⟩; gi_at_call 56; refine (CallsIn.inRound l (callsIn_wide.2 (ih y.1.2 _ _ y.2.2.1 y.2.2.2 (by rw [← hy]; exact (y.2.1.below hi2).below ⟨rfl, rfl, rfl, Nat.le_refl _, fun _ _ => rfl⟩)))).mono ?_; rintro e W3 ⟨rfl, hb3⟩; have hc3 : W3.cell? ⟨w.heap.size + 1, 0, none⟩ = some (.int .i64 (wsum pre)) := (hb3.cell (p := ⟨w.heap.size + 1, 0, none⟩) hi1.lt).trans hc; have hf3 : W3.frozen? ⟨w.heap.size + 1, 0, none⟩ = false := (hb3.frozen (p := ⟨w.heap.size + 1, 0, none⟩) hi1.lt).trans hf; have HB3 := Lx.Hd.mk hb3; clear hb3)
      all_goals gi_wp2
      all_goals
        have hB : Below W.heap.size W W3 := Below.trans (b := W.drew) ⟨rfl, rfl, rfl, Nat.le_refl _, fun _ _ => rfl⟩ HB3.out
        refine ⟨((keeps_of_below hB).trans (KeepsOthers.setCell _ _ _)).from _, (KpB.of_below hB).trans (KpB.setB _ _ _), ?_, ?_, ?_⟩
        · rw [wsum_snoc]
          exact blk_put (cs := #[.int .i64 (wsum pre)]) ((hB.block _ hi1.lt).trans hi1) 0 _ rfl
        · exact (hi2.trans (hB.mono hi2.size)).setCell (p := ⟨w.heap.size + 1, 0, none⟩) (Nat.le_succ _) _
        · have := hB.size; simp; omega
    case done =>
      rintro D' ys W hD' rfl ⟨h1, h2, h3⟩ hK
      have hc := h1.cell
      rw [hsum] at hc
      gi_wp2
      refine ⟨by simp, .inl ⟨_, _, rfl, run_takeDeferred hK, ?_⟩⟩
      exact ⟨_, results_tmp rfl _ _ _, rfl, h2.trans (belowK_b (w := w) (Nat.le_refl _) W D' _ _ (by omega) hK rfl rfl)⟩
    case stop =>
      intro D c pre W _ _ h _
      exact h.elim
end Go.Proofs.YtnjnadlgndjnbaaDoor.A
namespace Go.Proofs.YtnjnadlgndjnbaaDoor.A
open Go.RowKit Go.Shelf Go.Proofs.YtnjnadlgndjnbaaDoor.As Go.Proofs.YtnjnadlgndjnbaaDoorW.PrintWords Go.Proofs.YtnjnadlgndjnbaaDoorW.PrintLast Go.Proofs.YtnjnadlgndjnbaaDoorW.PrintMore
attribute [local go_sem] Oper.semAt_some
theorem foldl_max (l : List Nd) : ∀ c : Nat, l.foldl (fun c x => max c x.deep) c = max c (deeps l) := by
  unfold deeps
  induction l with
  | nil => intro c; simp
  | cons x l ih => intro c; rw [List.foldl_cons, List.foldl_cons, ih, ih (max 0 x.deep)]; omega
theorem deeps_append (a b : List Nd) : deeps (a ++ b) = max (deeps a) (deeps b) := by
  have := foldl_max b (deeps a)
  rw [← this]; unfold deeps; rw [List.foldl_append]
theorem deeps_cons (x : Nd) (l : List Nd) : deeps (x :: l) = max x.deep (deeps l) := by
  have := foldl_max l x.deep
  rw [← this]; unfold deeps; rw [List.foldl_cons]; congr 1
theorem deeps_ex (l : List SE) : deeps (l.map .ex) = deepEs l := by
  induction l with
  | nil => rfl
  | cons e l ih => rw [List.map_cons, deeps_cons, deepEs, ih]; rfl
theorem deeps_st (l : List SS) : deeps (l.map .st) = deepSs l := by
  induction l with
  | nil => rfl
  | cons e l ih => rw [List.map_cons, deeps_cons, deepSs, ih]; rfl
theorem Nd.deep_eq (n : Nd) : n.deep = 1 + deeps n.kids := by
  cases n with
  | ex e => obtain ⟨_, _, _, _, _, l⟩ := e; show deepE _ = _; rw [deepE]; unfold Nd.kids; rw [deeps_ex]
  | st s => obtain ⟨_, _, _, _, _, _, i, x, t, e⟩ := s; show deepS _ = _; rw [deepS]; unfold Nd.kids; simp only [deeps_append, deeps_ex, deeps_st]; omega
def wdeep {G : Nd → Prop} {w : World} (l : List (At w G)) : Int := l.foldl (fun s y => max s (y.1.2.deep : Int)) 0
theorem wdeep_snoc {G : Nd → Prop} {w : World} (l : List (At w G)) (y : At w G) : wdeep (l ++ [y]) = max (wdeep l) (y.1.2.deep : Int) := by unfold wdeep; rw [List.foldl_append]; rfl
theorem wdeep_from {G : Nd → Prop} {w : World} (l : List (At w G)) : ∀ (c : Nat), l.foldl (fun s y => max s (y.1.2.deep : Int)) (c : Int) = (((l.map (·.1.2)).foldl (fun c x => max c x.deep) c : Nat) : Int) := by
  induction l with
  | nil => intro c; rfl
  | cons y l ih =>
    intro c
    have hw : max (c : Int) (y.1.2.deep : Int) = ((max c y.1.2.deep : Nat) : Int) := by omega
    rw [List.foldl_cons, hw, ih, List.map_cons, List.foldl_cons]
theorem wdeep_eq {G : Nd → Prop} {w : World} (l : List (At w G)) : wdeep l = (deeps (l.map (·.1.2)) : Int) := wdeep_from l 0
set_option maxRecDepth 100000 in
set_option maxHeartbeats 2000000 in
theorem deep_in : ∀ (D : Nat) (x : Nd) (v : Value) (w : World), x.deep ≤ D → x.deep < 4611686018427387904 → NdAt w v x → Calls Tryd.prog 57 #[v] w fun e w' => e = .returned (.int .i64 x.deep) ∧ Below w.heap.size w w' := by
  intro D; induction D with
  | zero => intro x v w h; cases x with
    | ex e => obtain ⟨_, _, _, _, _, l⟩ := e; have : deepE _ ≤ 0 := h; rw [deepE] at this; omega
    | st s => obtain ⟨_, _, _, _, _, _, i, x, t, e⟩ := s; have : deepS _ ≤ 0 := h; rw [deepS] at this; omega
  | succ D ih =>
    intro x v w hD hs hN
    obtain ⟨pp, qq, hv⟩ := hN.agg
    obtain ⟨p, hp⟩ : ∃ p, Value.pointer pp = p := ⟨_, rfl⟩
    obtain ⟨q, hq⟩ : ∃ q, Value.pointer qq = q := ⟨_, rfl⟩
    rw [hp, hq] at hv
    subst hv
    clear hp hq
    refine (callsIn_wide (n := 9)).1 ?_
    refine callsIn_of_wp_marks Tryd.func57 rfl trivial ?_ rfl
    simp only [Tryd.ntmps57, List.size_toArray, List.length_cons, List.length_nil, Nat.reduceAdd, Nat.reduceSub, Array.replicate_succ, Array.replicate_zero, List.push_toArray, List.append_toArray, List.nil_append, List.cons_append]
    gi_wp2_with (refine ⟨trivial, ?_⟩; gi_at_call 72; refine (children_any _ _ _ _).mono ?_; rintro e w' ⟨rfl, rfl⟩)
    obtain ⟨W0, hW0⟩ : ∃ W0, (((w.alloc (.cells #[p, q] 97)).alloc (.cells #[.int .i64 0] 3)).alloc (.cells #[p, q] 97)) = W0 := ⟨_, rfl⟩
    have hsz : W0.heap.size = w.heap.size + 3 := by rw [← hW0]; simp
    have hw0 : Below w.heap.size w W0 := by rw [← hW0]; exact (((Below.refl _ w).alloc (Nat.le_refl _) _).alloc (by simp <;> omega) _).alloc (by simp <;> omega) _
    have hn2 := cells_new2 ((w.alloc (.cells #[p, q] 97)).alloc (.cells #[.int .i64 0] 3)) p q 97
    have hbx : Boxed W0 (w.heap.size + 1) 3 (.int .i64 0) := by
      rw [← hW0]
      exact (Below.heap_alloc _ _ _ (by simp)).trans (by have := World.alloc_heap_new (w.alloc (.cells #[p, q] 97)) (.cells #[.int .i64 0] 3); rwa [World.size_alloc] at this)
    simp only [World.size_alloc] at hn2
    rw [hW0] at hn2 ⊢
    have hkid : ∀ y ∈ x.kids, y.deep ≤ D ∧ y.deep < 4611686018427387904 := fun y hy => ⟨by have := Nd.deep_kids hy; omega, by have := Nd.deep_kids hy; omega⟩
    obtain ⟨xs, hxs, hseq⟩ := seq_stops 8 (fun y => y.deep ≤ D ∧ y.deep < 4611686018427387904) x hkid (.agg #[p, q]) p q w W0 (w.heap.size + 1) (w.heap.size + 1 + 1) rfl hN hw0 (by omega) (by omega) (by omega) (by omega) hn2.1 hn2.2
    have hsum : wdeep xs = ((x.deep - 1 : Nat) : Int) := by rw [wdeep_eq, hxs]; have := x.deep_eq; congr 1; omega
    refine wpIn_rangeFunc_ownH (F := Fence.wide) rfl (by omega) (gf := 80) (lb := #[.pointer (some ⟨w.heap.size + 1 + 1, 0, none⟩)]) rfl trivial (enters_of Tryd.func80 (by kernel_rfl) rfl)
      hseq KpB.trans (fun W l o o' _ h hc _ => KpB.putObj W l o o' h hc) (Below.refl _ _) (fun _ => rfl)
      (fun pre W => Boxed W (w.heap.size + 1) 3 (.int .i64 (wdeep pre)) ∧ Below w.heap.size w W ∧ W0.heap.size ≤ W.heap.size) (fun _ _ _ => False)
      (OwnFrom.and (Own.from (boxed_own _ _ _) _) (OwnFrom.and (ownFrom_below (Nat.le_refl _) (by omega)) (fun _ _ _ _ hs hg _ => Nat.le_trans hs hg.size))) (fun _ _ _ _ _ h _ _ => h) ⟨hbx, hw0, Nat.le_refl _⟩
      (fun y a' W => ∃ Bx py qy, y.1.1 = .agg #[.pointer py, .pointer qy] ∧ W.heap[Bx]? = some (.cells #[.pointer py, .pointer qy] 97 (0, 0)) ∧ W0.heap.size ≤ Bx ∧
        a' = { tmps := #[.agg #[p, q], .pointer (some ⟨w.heap.size, 0, none⟩), .int .i64 0, .pointer (some ⟨w.heap.size + 1, 0, none⟩), .pointer (some ⟨Bx, 0, none⟩), .agg #[p, q], .func (.func 80) #[] #[.pointer (some ⟨w.heap.size + 1 + 1, 0, none⟩)], y.1.1, undef, undef, undef, undef, undef, undef], defers := [] })
      (fun y a' s W W' row hs hg hr => by
        obtain ⟨Bx, py, qy, h1, h2, h3, h4⟩ := hs
        exact ⟨Bx, py, qy, h1, (hg.block Bx (Array.getElem?_eq_some_iff.1 h2).1 (fun e => by obtain ⟨_, o, ho, hc⟩ := hr Bx e.symm; rw [h2] at ho; cases ho; cases hc)).trans h2, h3, h4⟩) ?assign ?body ?done ?stop
    case assign =>
      rintro l pre y W K ⟨hi1, hi2, hi3⟩ hK
      obtain ⟨py, qy, hy⟩ := y.2.1.agg
      rw [hy]
      gi_wp2
      exact hK _ _ ((KeepsOthers.alloc _ _).from _) (KpB.of_below ((Below.refl _ W).alloc (Nat.le_refl _) _)) ⟨hi1.alloc _, hi2.trans (((Below.refl _ W).alloc (Nat.le_refl _) _).mono hi2.size), by simp; omega⟩ ⟨W.heap.size, py, qy, hy, World.alloc_heap_new _ _, hi3, by rw [hy]⟩
    case body =>
      rintro l pre y a' W hl ⟨r, hr⟩ ⟨hi1, hi2, hi3⟩ ⟨Bx, py, qy, hy, hx, hBx, rfl⟩ hlt
      have hc := hi1.cell
      have hf := hi1.frozen
      have hx0 : W.cell? ⟨Bx, 0, none⟩ = some (.pointer py) := by unfold World.cell?; rw [hx]; rfl
      have hx1 : W.cell? ⟨Bx, 1, none⟩ = some (.pointer qy) := by unfold World.cell?; rw [hx]; rfl
      have hmx : Tryd.prog.follows .mixedOrders = true := by kernel_rfl
      rw [hy]
      gi_wp2
      gi_region_with_o (refine ⟨trivial, ?_⟩; gi_at_call 57; refine (CallsIn.inRound l (callsIn_wide.2 (ih y.1.2 _ _ y.2.2.1 y.2.2.2 (by rw [← hy]; exact (y.2.1.below hi2).below ⟨rfl, rfl, rfl, Nat.le_refl _, fun _ _ => rfl⟩)))).mono ?_; rintro e W3 ⟨rfl, hb3⟩; have hc3 : W3.cell? ⟨w.heap.size + 1, 0, none⟩ = some (.int .i64 (wdeep pre)) := (hb3.cell (p := ⟨w.heap.size + 1, 0, none⟩) hi1.lt).trans hc; have hf3 : W3.frozen? ⟨w.heap.size + 1, 0, none⟩ = false := (hb3.frozen (p := ⟨w.heap.size + 1, 0, none⟩) hi1.lt).trans hf; have HB3 := Lx.Hd.mk hb3; clear hb3)
      all_goals gi_wp2
      all_goals
        have hB : Below W.heap.size W W3 := Below.trans (b := W.drew) ⟨rfl, rfl, rfl, Nat.le_refl _, fun _ _ => rfl⟩ HB3.out
        refine ⟨((keeps_of_below hB).trans (KeepsOthers.setCell _ _ _)).from _, (KpB.of_below hB).trans (KpB.setB _ _ _), ?_, ?_, ?_⟩
        · rw [wdeep_snoc]
          first
            | (rw [show max (wdeep pre) (y.1.2.deep : Int) = (y.1.2.deep : Int) by omega]; exact blk_put (cs := #[.int .i64 (wdeep pre)]) ((hB.block _ hi1.lt).trans hi1) 0 _ rfl)
            | (rw [show max (wdeep pre) (y.1.2.deep : Int) = wdeep pre by omega]; exact blk_put (cs := #[.int .i64 (wdeep pre)]) ((hB.block _ hi1.lt).trans hi1) 0 _ rfl)
        · exact (hi2.trans (hB.mono hi2.size)).setCell (p := ⟨w.heap.size + 1, 0, none⟩) (Nat.le_succ _) _
        · have := hB.size; simp; omega
    case done =>
      rintro D' ys W hD' rfl ⟨h1, h2, h3⟩ hK
      have hc := h1.cell
      rw [hsum] at hc
      gi_wp2
      refine ⟨by simp, .inl ⟨_, _, rfl, run_takeDeferred hK, ?_⟩⟩
      refine ⟨_, results_tmp rfl _ _ _, ?_, h2.trans (belowK_b (w := w) (Nat.le_refl _) W D' _ _ (by omega) hK rfl rfl)⟩
      show Ending.returned (.int .i64 (((x.deep - 1 : Nat) : Int) + 1)) = _
      exact Lx.ret_int (by have := x.deep_eq; omega)
    case stop =>
      intro D c pre W _ _ h _
      exact h.elim
end Go.Proofs.YtnjnadlgndjnbaaDoor.A
namespace Go.Proofs.YtnjnadlgndjnbaaDoor.A
open Go.RowKit Go.Shelf Go.Proofs.YtnjnadlgndjnbaaDoor.As Go.Proofs.YtnjnadlgndjnbaaDoorW.PrintWords Go.Proofs.YtnjnadlgndjnbaaDoorW.PrintLast Go.Proofs.YtnjnadlgndjnbaaDoorW.PrintMore
abbrev Keys := Lx.Keys
theorem Keys.below {w w' : World} (h : Keys w) (hb : Below w.heap.size w w') : Keys w' := Lx.Keys.below h hb
def widthI (ty : Int) : Int := if ty = 1 then 8 else if ty = 2 then 16 else if ty = 3 then 32 else if ty = 4 then 32 else 0
theorem width_any (ty : Int) (w : World) : Calls Tryd.prog 61 #[.int .i64 ty] w fun e w' => e = .returned (.int .i64 (widthI ty)) ∧ w' = w := by
  by_cases h1 : ty = 1
  · subst h1; go_enter Tryd.func61, Tryd.ntmps61; go_wp2; go_ret; exact ⟨rfl, rfl⟩
  by_cases h2 : ty = 2
  · subst h2; go_enter Tryd.func61, Tryd.ntmps61; go_wp2; go_ret; exact ⟨rfl, rfl⟩
  by_cases h3 : ty = 3
  · subst h3; go_enter Tryd.func61, Tryd.ntmps61; go_wp2; go_ret; exact ⟨rfl, rfl⟩
  by_cases h4 : ty = 4
  · subst h4; go_enter Tryd.func61, Tryd.ntmps61; go_wp2; go_ret; exact ⟨rfl, rfl⟩
  have e1 : (ty == 1) = false := by simpa using h1
  have e2 : (ty == 2) = false := by simpa using h2
  have e3 : (ty == 3) = false := by simpa using h3
  have e4 : (ty == 4) = false := by simpa using h4
  have he : widthI ty = 0 := by unfold widthI; rw [if_neg h1, if_neg h2, if_neg h3, if_neg h4]
  rw [he]
  clear he h1 h2 h3 h4
  go_enter Tryd.func61, Tryd.ntmps61
  go_wp2
  go_ret
  exact ⟨rfl, rfl⟩
def wordName (op : Int) : ByteArray := if op = 1 then ⟨#[110, 101, 103]⟩ else if op = 2 then ⟨#[110, 111, 116]⟩ else if op = 3 then ⟨#[122, 101, 114, 111]⟩ else ⟨#[]⟩
theorem wordName_any (op : Int) (w : World) : Calls Tryd.prog 88 #[.int .i64 op] w fun e w' => e = .returned (.string (wordName op)) ∧ w' = w := by
  by_cases h1 : op = 1
  · subst h1; go_enter Tryd.func88, Tryd.ntmps88; go_wp2; go_ret; exact ⟨rfl, rfl⟩
  by_cases h2 : op = 2
  · subst h2; go_enter Tryd.func88, Tryd.ntmps88; go_wp2; go_ret; exact ⟨rfl, rfl⟩
  by_cases h3 : op = 3
  · subst h3; go_enter Tryd.func88, Tryd.ntmps88; go_wp2; go_ret; exact ⟨rfl, rfl⟩
  have e1 : (op == 1) = false := by simpa using h1
  have e2 : (op == 2) = false := by simpa using h2
  have e3 : (op == 3) = false := by simpa using h3
  have he : wordName op = ⟨#[]⟩ := by unfold wordName; rw [if_neg h1, if_neg h2, if_neg h3]
  rw [he]
  clear he h1 h2 h3
  go_enter Tryd.func88, Tryd.ntmps88
  go_wp2
  go_ret
  exact ⟨rfl, rfl⟩
def opL : List Int := [20, 21, 1, 2, 3, 4, 5, 8, 9, 10, 11, 12, 14, 15, 16, 17]
def opB (op : Int) : Bool := opL.contains op
theorem operator_any (op : Int) (w : World) : Calls Tryd.prog 89 #[.int .i64 op] w fun e w' => e = .returned (.bool (opB op)) ∧ w' = w := by
  by_cases hm : op ∈ opL
  · have he : opB op = true := by simpa [opB] using hm
    rw [he]
    clear he
    simp only [opL, List.mem_cons, List.not_mem_nil, or_false] at hm
    rcases hm with rfl | rfl | rfl | rfl | rfl | rfl | rfl | rfl | rfl | rfl | rfl | rfl | rfl | rfl | rfl | rfl <;> (go_enter Tryd.func89, Tryd.ntmps89; go_wp2; go_ret; exact ⟨rfl, rfl⟩)
  · have he : opB op = false := by simpa [opB] using hm
    rw [he]
    clear he
    simp only [opL, List.mem_cons, List.not_mem_nil, or_false, not_or] at hm
    obtain ⟨a1, a2, a3, a4, a5, a6, a7, a8, a9, b1, b2, b3, b4, b5, b6, b7⟩ := hm
    have c1 : (op == 20) = false := by simpa using a1
    have c2 : (op == 21) = false := by simpa using a2
    have c3 : (op == 1) = false := by simpa using a3
    have c4 : (op == 2) = false := by simpa using a4
    have c5 : (op == 3) = false := by simpa using a5
    have c6 : (op == 4) = false := by simpa using a6
    have c7 : (op == 5) = false := by simpa using a7
    have c8 : (op == 8) = false := by simpa using a8
    have c9 : (op == 9) = false := by simpa using a9
    have d1 : (op == 10) = false := by simpa using b1
    have d2 : (op == 11) = false := by simpa using b2
    have d3 : (op == 12) = false := by simpa using b3
    have d4 : (op == 14) = false := by simpa using b4
    have d5 : (op == 15) = false := by simpa using b5
    have d6 : (op == 16) = false := by simpa using b6
    have d7 : (op == 17) = false := by simpa using b7
    clear a1 a2 a3 a4 a5 a6 a7 a8 a9 b1 b2 b3 b4 b5 b6 b7
    go_enter Tryd.func89, Tryd.ntmps89
    go_wp2
    go_ret
    exact ⟨rfl, rfl⟩
def nameB (s : ByteArray) : Bool := Lx.kindOf s == 1
theorem name_any (s : ByteArray) (w : World) (hs : s.size ≤ 140737488351232) (hG : Keys w) : Calls Tryd.prog 48 #[.string s] w fun e w' => e = .returned (.bool (nameB s)) ∧ Below w.heap.size w w' := by
  go_enter Tryd.func48, Tryd.ntmps48
  go_wp2_with (go_at_call 62; refine (Lx.kind_any s _ hs hG).mono ?_; rintro e w1 ⟨rfl, hb⟩; have HB := Lx.Hd.mk hb; clear hb)
  go_ret
  exact ⟨rfl, HB.out⟩
def sameB (a b : SE) : Bool := a.f0 == b.f0 && (a.f1 == b.f1 && (a.f2 == b.f2 && (a.f3 == b.f3 && a.f4.toList == b.f4.toList)))
theorem same_vals (a0 a1 a2 a3 b0 b1 b2 b3 : Int) (a4 b4 : ByteArray) (A B : Option Addr) (n m c d : Nat) (w : World) :
    Calls Tryd.prog 87 #[.agg #[.int .i64 a0, .int .i64 a1, .int .i64 a2, .int .u32 a3, .string a4, .slice A n c], .agg #[.int .i64 b0, .int .i64 b1, .int .i64 b2, .int .u32 b3, .string b4, .slice B m d]] w fun e w' => e = .returned (.bool (a0 == b0 && (a1 == b1 && (a2 == b2 && (a3 == b3 && a4.toList == b4.toList))))) ∧ Below w.heap.size w w' := by
  have H0 := (Below.refl w.heap.size w)
  cases h0 : (a0 == b0)
  · go_enter Tryd.func87, Tryd.ntmps87
    go_wp2
    go_ret
    exact ⟨rfl, ((Below.refl _ w).alloc (Nat.le_refl _) _).alloc (by simp) _⟩
  cases h1 : (a1 == b1)
  · go_enter Tryd.func87, Tryd.ntmps87
    go_wp2
    go_ret
    exact ⟨rfl, ((Below.refl _ w).alloc (Nat.le_refl _) _).alloc (by simp) _⟩
  cases h2 : (a2 == b2)
  · go_enter Tryd.func87, Tryd.ntmps87
    go_wp2
    go_ret
    exact ⟨rfl, ((Below.refl _ w).alloc (Nat.le_refl _) _).alloc (by simp) _⟩
  cases h3 : (a3 == b3)
  · go_enter Tryd.func87, Tryd.ntmps87
    go_wp2
    go_ret
    exact ⟨rfl, ((Below.refl _ w).alloc (Nat.le_refl _) _).alloc (by simp) _⟩
  cases h4 : (a4.toList == b4.toList)
  all_goals
    go_enter Tryd.func87, Tryd.ntmps87
    go_wp2
    go_ret
    exact ⟨rfl, ((Below.refl _ w).alloc (Nat.le_refl _) _).alloc (by simp) _⟩
end Go.Proofs.YtnjnadlgndjnbaaDoor.A
