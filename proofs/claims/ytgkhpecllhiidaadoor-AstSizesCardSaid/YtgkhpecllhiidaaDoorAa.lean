/- Package ast: what a round of an iterator keeps; the closures that hand a child on; each. -/
import Derived.Test.YtgkhpecllhiidaaDoorHa
import Derived.RangeFuncNested
import Derived.RangeFuncBound
import Derived.RangeFuncCalls
import Derived.RangeFuncLeaves
import Derived.Shelf.Abstract
import Derived.Shelf.RegionOpen
import Derived.WalkKit
import Derived.OwnWalkIn
import Derived.TacticsInMore
import Derived.LoopNIn
import Derived.LoopIn
set_option linter.unusedVariables false
set_option linter.unusedSimpArgs false
namespace Go.Proofs.YtgkhpecllhiidaaDoor.As
open Go.RowKit Go.Shelf
attribute [local go_sem] Oper.semAt_some

/-- What a round that goes on keeps: all cells but those of the block B0. -/
structure KpB (B0 : Nat) (W W' : World) : Prop where
  size : W.heap.size ≤ W'.heap.size
  same : ∀ b cs t q, b ≠ B0 → W.heap[b]? = some (.cells cs t q) → W'.heap[b]? = some (.cells cs t q)
theorem KpB.refl (B0 : Nat) (W : World) : KpB B0 W W := ⟨Nat.le_refl _, fun _ _ _ _ _ h => h⟩
theorem KpB.trans {B0 : Nat} {A B C : World} (h : KpB B0 A B) (k : KpB B0 B C) : KpB B0 A C :=
  ⟨Nat.le_trans h.size k.size, fun b cs t q hb hc => k.same b cs t q hb (h.same b cs t q hb hc)⟩
theorem KpB.putObj {B0 : Nat} (W : World) (l : Nat) (o o' : Obj) (hl : W.heap[l]? = some o) (ho : o.isCells = false) : KpB B0 W (W.putObj l o') := by
  have hg := grownBy_putObj' W l o'
  refine ⟨hg.size, fun b cs t q _ hc => ?_⟩
  have hlt := (Array.getElem?_eq_some_iff.1 hc).1
  rw [hg.block b hlt (fun e => by cases e; rw [hl] at hc; cases hc; cases ho)]
  exact hc
theorem KpB.of_below {B0 : Nat} {W W' : World} (h : Below W.heap.size W W') : KpB B0 W W' :=
  ⟨h.size, fun b cs t q _ hc => (h.block b (Array.getElem?_eq_some_iff.1 hc).1).trans hc⟩
theorem KpB.cell {B0 : Nat} {W W' : World} (h : KpB B0 W W') {p : Addr} {v : Value} (hb : p.block ≠ B0) (hc : W.cell? p = some v) : W'.cell? p = some v := by
  unfold World.cell? at hc ⊢
  cases ho : W.heap[p.block]? with
  | none => rw [ho] at hc; cases hc
  | some o =>
    cases o with
    | cells cs t q => rw [h.same p.block cs t q hb ho]; rw [ho] at hc; exact hc
    | _ => rw [ho] at hc; cases hc

/-! ### The closures that hand a child on -/
def IsBool (R : Bool → World → Prop) (e : Ending) (W : World) : Prop := ∃ b : Bool, e = .returned (.bool b) ∧ R b W
def EachStep (J Jx : Nat → World → Prop) (i : Nat) (b : Bool) (W : World) : Prop := (b = true ∧ J (i + 1) W) ∨ (b = false ∧ Jx (i + 1) W)
def EachPost (J Jx : Nat → World → Prop) (len : Nat) (b : Bool) (W : World) : Prop := (b = true ∧ J len W) ∨ (b = false ∧ ∃ i, i < len ∧ Jx (i + 1) W)
theorem yield_1 (l B m : Nat) (a : Option Addr) (W : World) (R : Bool → World → Prop) (hB : W.cell? ⟨B, 0, none⟩ = some (.func (.yield l) #[] #[]))
    (hy : YieldAt Fence.wide m Tryd.prog l #[.agg #[.pointer a, .pointer none]] W (IsBool R)) :
    Calls Tryd.prog 127 #[.pointer a, .pointer (some ⟨B, 0, none⟩)] W (IsBool R) := by
  refine (callsIn_wide (n := m + 1)).1 ?_
  obtain ⟨fn, tmps, assign, body, hy, hR⟩ := hy
  refine callsIn_of_wp Tryd.func127 rfl trivial ?_ rfl
  simp only [Tryd.ntmps127, List.size_toArray, List.length_cons, List.length_nil, Nat.reduceAdd, Nat.reduceSub, Array.replicate_succ, Array.replicate_zero, List.push_toArray, List.append_toArray, List.nil_append, List.cons_append]
  gi_wp2
  refine hR.mono ?_
  rintro e W1 ⟨b, rfl, hr⟩
  gi_wp2
  go_ret
  exact ⟨b, rfl, hr⟩
theorem yield_2 (l B m : Nat) (a : Option Addr) (W : World) (R : Bool → World → Prop) (hB : W.cell? ⟨B, 0, none⟩ = some (.func (.yield l) #[] #[]))
    (hy : YieldAt Fence.wide m Tryd.prog l #[.agg #[.pointer a, .pointer none]] W (IsBool R)) :
    Calls Tryd.prog 128 #[.pointer a, .pointer (some ⟨B, 0, none⟩)] W (IsBool R) := by
  refine (callsIn_wide (n := m + 1)).1 ?_
  obtain ⟨fn, tmps, assign, body, hy, hR⟩ := hy
  refine callsIn_of_wp Tryd.func128 rfl trivial ?_ rfl
  simp only [Tryd.ntmps128, List.size_toArray, List.length_cons, List.length_nil, Nat.reduceAdd, Nat.reduceSub, Array.replicate_succ, Array.replicate_zero, List.push_toArray, List.append_toArray, List.nil_append, List.cons_append]
  gi_wp2
  refine hR.mono ?_
  rintro e W1 ⟨b, rfl, hr⟩
  gi_wp2
  go_ret
  exact ⟨b, rfl, hr⟩
theorem yield_3 (l B m : Nat) (a : Option Addr) (W : World) (R : Bool → World → Prop) (hB : W.cell? ⟨B, 0, none⟩ = some (.func (.yield l) #[] #[]))
    (hy : YieldAt Fence.wide m Tryd.prog l #[.agg #[.pointer a, .pointer none]] W (IsBool R)) :
    Calls Tryd.prog 129 #[.pointer a, .pointer (some ⟨B, 0, none⟩)] W (IsBool R) := by
  refine (callsIn_wide (n := m + 1)).1 ?_
  obtain ⟨fn, tmps, assign, body, hy, hR⟩ := hy
  refine callsIn_of_wp Tryd.func129 rfl trivial ?_ rfl
  simp only [Tryd.ntmps129, List.size_toArray, List.length_cons, List.length_nil, Nat.reduceAdd, Nat.reduceSub, Array.replicate_succ, Array.replicate_zero, List.push_toArray, List.append_toArray, List.nil_append, List.cons_append]
  gi_wp2
  refine hR.mono ?_
  rintro e W1 ⟨b, rfl, hr⟩
  gi_wp2
  go_ret
  exact ⟨b, rfl, hr⟩
theorem yield_4 (l B m : Nat) (a : Option Addr) (W : World) (R : Bool → World → Prop) (hB : W.cell? ⟨B, 0, none⟩ = some (.func (.yield l) #[] #[]))
    (hy : YieldAt Fence.wide m Tryd.prog l #[.agg #[.pointer none, .pointer a]] W (IsBool R)) :
    Calls Tryd.prog 130 #[.pointer a, .pointer (some ⟨B, 0, none⟩)] W (IsBool R) := by
  refine (callsIn_wide (n := m + 1)).1 ?_
  obtain ⟨fn, tmps, assign, body, hy, hR⟩ := hy
  refine callsIn_of_wp Tryd.func130 rfl trivial ?_ rfl
  simp only [Tryd.ntmps130, List.size_toArray, List.length_cons, List.length_nil, Nat.reduceAdd, Nat.reduceSub, Array.replicate_succ, Array.replicate_zero, List.push_toArray, List.append_toArray, List.nil_append, List.cons_append]
  gi_wp2
  refine hR.mono ?_
  rintro e W1 ⟨b, rfl, hr⟩
  gi_wp2
  go_ret
  exact ⟨b, rfl, hr⟩
theorem yield_5 (l B m : Nat) (a : Option Addr) (W : World) (R : Bool → World → Prop) (hB : W.cell? ⟨B, 0, none⟩ = some (.func (.yield l) #[] #[]))
    (hy : YieldAt Fence.wide m Tryd.prog l #[.agg #[.pointer none, .pointer a]] W (IsBool R)) :
    Calls Tryd.prog 131 #[.pointer a, .pointer (some ⟨B, 0, none⟩)] W (IsBool R) := by
  refine (callsIn_wide (n := m + 1)).1 ?_
  obtain ⟨fn, tmps, assign, body, hy, hR⟩ := hy
  refine callsIn_of_wp Tryd.func131 rfl trivial ?_ rfl
  simp only [Tryd.ntmps131, List.size_toArray, List.length_cons, List.length_nil, Nat.reduceAdd, Nat.reduceSub, Array.replicate_succ, Array.replicate_zero, List.push_toArray, List.append_toArray, List.nil_append, List.cons_append]
  gi_wp2
  refine hR.mono ?_
  rintro e W1 ⟨b, rfl, hr⟩
  gi_wp2
  go_ret
  exact ⟨b, rfl, hr⟩
theorem each_1 (A : Option Addr) (len cap B : Nat) (J Jx : Nat → World → Prop) (hA : 0 < len → ∃ ad, A = some ad) (hlen : len ≤ 9223372036854775807)
    (hf : ∀ (i : Nat) (ad : Addr) (W : World), i < len → A = some ad → J i W → Calls Tryd.prog 127 #[.pointer (some (ad.add (i * 6))), .pointer (some ⟨B, 0, none⟩)] W (IsBool (EachStep J Jx i)))
    (W : World) (h0 : J 0 W) :
    Calls Tryd.prog 126 #[.slice A len cap, .func (.func 127) #[] #[.pointer (some ⟨B, 0, none⟩)]] W (IsBool (EachPost J Jx len)) := by
  go_enter Tryd.func126, Tryd.ntmps126
  go_wp2
  go_loopw [8] (fun t8 wr => ∃ i : Nat, i ≤ len ∧ t8 = .int .i64 i ∧ J i wr) (fun t8 _ => len - (intOf t8).toNat)
  case atStart => exact ⟨0, Nat.zero_le _, rfl, h0⟩
  case round =>
    obtain ⟨i, hi, rfl, hJ⟩ := hrel
    by_cases hlt : i < len
    · obtain ⟨ad, rfl⟩ := hA (by omega)
      have hc := hf i ad wr hlt rfl hJ
      go_wp2_with (go_at_call 127; refine hc.mono ?_; rintro e W1 ⟨b, rfl, hr⟩; rcases hr with ⟨rfl, hr⟩ | ⟨rfl, hr⟩)
      · exact ⟨⟨i + 1, by omega, by go_num, hr⟩, by simp [intOf]; omega⟩
      · go_ret
        exact ⟨false, rfl, .inr ⟨rfl, i, hlt, hr⟩⟩
    · go_wp2
      go_ret
      obtain rfl : i = len := by omega
      exact ⟨true, rfl, .inl ⟨rfl, hJ⟩⟩
theorem each_2 (A : Option Addr) (len cap B : Nat) (J Jx : Nat → World → Prop) (hA : 0 < len → ∃ ad, A = some ad) (hlen : len ≤ 9223372036854775807)
    (hf : ∀ (i : Nat) (ad : Addr) (W : World), i < len → A = some ad → J i W → Calls Tryd.prog 128 #[.pointer (some (ad.add (i * 6))), .pointer (some ⟨B, 0, none⟩)] W (IsBool (EachStep J Jx i)))
    (W : World) (h0 : J 0 W) :
    Calls Tryd.prog 126 #[.slice A len cap, .func (.func 128) #[] #[.pointer (some ⟨B, 0, none⟩)]] W (IsBool (EachPost J Jx len)) := by
  go_enter Tryd.func126, Tryd.ntmps126
  go_wp2
  go_loopw [8] (fun t8 wr => ∃ i : Nat, i ≤ len ∧ t8 = .int .i64 i ∧ J i wr) (fun t8 _ => len - (intOf t8).toNat)
  case atStart => exact ⟨0, Nat.zero_le _, rfl, h0⟩
  case round =>
    obtain ⟨i, hi, rfl, hJ⟩ := hrel
    by_cases hlt : i < len
    · obtain ⟨ad, rfl⟩ := hA (by omega)
      have hc := hf i ad wr hlt rfl hJ
      go_wp2_with (go_at_call 128; refine hc.mono ?_; rintro e W1 ⟨b, rfl, hr⟩; rcases hr with ⟨rfl, hr⟩ | ⟨rfl, hr⟩)
      · exact ⟨⟨i + 1, by omega, by go_num, hr⟩, by simp [intOf]; omega⟩
      · go_ret
        exact ⟨false, rfl, .inr ⟨rfl, i, hlt, hr⟩⟩
    · go_wp2
      go_ret
      obtain rfl : i = len := by omega
      exact ⟨true, rfl, .inl ⟨rfl, hJ⟩⟩
theorem each_3 (A : Option Addr) (len cap B : Nat) (J Jx : Nat → World → Prop) (hA : 0 < len → ∃ ad, A = some ad) (hlen : len ≤ 9223372036854775807)
    (hf : ∀ (i : Nat) (ad : Addr) (W : World), i < len → A = some ad → J i W → Calls Tryd.prog 129 #[.pointer (some (ad.add (i * 6))), .pointer (some ⟨B, 0, none⟩)] W (IsBool (EachStep J Jx i)))
    (W : World) (h0 : J 0 W) :
    Calls Tryd.prog 126 #[.slice A len cap, .func (.func 129) #[] #[.pointer (some ⟨B, 0, none⟩)]] W (IsBool (EachPost J Jx len)) := by
  go_enter Tryd.func126, Tryd.ntmps126
  go_wp2
  go_loopw [8] (fun t8 wr => ∃ i : Nat, i ≤ len ∧ t8 = .int .i64 i ∧ J i wr) (fun t8 _ => len - (intOf t8).toNat)
  case atStart => exact ⟨0, Nat.zero_le _, rfl, h0⟩
  case round =>
    obtain ⟨i, hi, rfl, hJ⟩ := hrel
    by_cases hlt : i < len
    · obtain ⟨ad, rfl⟩ := hA (by omega)
      have hc := hf i ad wr hlt rfl hJ
      go_wp2_with (go_at_call 129; refine hc.mono ?_; rintro e W1 ⟨b, rfl, hr⟩; rcases hr with ⟨rfl, hr⟩ | ⟨rfl, hr⟩)
      · exact ⟨⟨i + 1, by omega, by go_num, hr⟩, by simp [intOf]; omega⟩
      · go_ret
        exact ⟨false, rfl, .inr ⟨rfl, i, hlt, hr⟩⟩
    · go_wp2
      go_ret
      obtain rfl : i = len := by omega
      exact ⟨true, rfl, .inl ⟨rfl, hJ⟩⟩
theorem each_4 (A : Option Addr) (len cap B : Nat) (J Jx : Nat → World → Prop) (hA : 0 < len → ∃ ad, A = some ad) (hlen : len ≤ 9223372036854775807)
    (hf : ∀ (i : Nat) (ad : Addr) (W : World), i < len → A = some ad → J i W → Calls Tryd.prog 130 #[.pointer (some (ad.add (i * 10))), .pointer (some ⟨B, 0, none⟩)] W (IsBool (EachStep J Jx i)))
    (W : World) (h0 : J 0 W) :
    Calls Tryd.prog 103 #[.slice A len cap, .func (.func 130) #[] #[.pointer (some ⟨B, 0, none⟩)]] W (IsBool (EachPost J Jx len)) := by
  go_enter Tryd.func103, Tryd.ntmps103
  go_wp2
  go_loopw [8] (fun t8 wr => ∃ i : Nat, i ≤ len ∧ t8 = .int .i64 i ∧ J i wr) (fun t8 _ => len - (intOf t8).toNat)
  case atStart => exact ⟨0, Nat.zero_le _, rfl, h0⟩
  case round =>
    obtain ⟨i, hi, rfl, hJ⟩ := hrel
    by_cases hlt : i < len
    · obtain ⟨ad, rfl⟩ := hA (by omega)
      have hc := hf i ad wr hlt rfl hJ
      go_wp2_with (go_at_call 130; refine hc.mono ?_; rintro e W1 ⟨b, rfl, hr⟩; rcases hr with ⟨rfl, hr⟩ | ⟨rfl, hr⟩)
      · exact ⟨⟨i + 1, by omega, by go_num, hr⟩, by simp [intOf]; omega⟩
      · go_ret
        exact ⟨false, rfl, .inr ⟨rfl, i, hlt, hr⟩⟩
    · go_wp2
      go_ret
      obtain rfl : i = len := by omega
      exact ⟨true, rfl, .inl ⟨rfl, hJ⟩⟩
theorem each_5 (A : Option Addr) (len cap B : Nat) (J Jx : Nat → World → Prop) (hA : 0 < len → ∃ ad, A = some ad) (hlen : len ≤ 9223372036854775807)
    (hf : ∀ (i : Nat) (ad : Addr) (W : World), i < len → A = some ad → J i W → Calls Tryd.prog 131 #[.pointer (some (ad.add (i * 10))), .pointer (some ⟨B, 0, none⟩)] W (IsBool (EachStep J Jx i)))
    (W : World) (h0 : J 0 W) :
    Calls Tryd.prog 103 #[.slice A len cap, .func (.func 131) #[] #[.pointer (some ⟨B, 0, none⟩)]] W (IsBool (EachPost J Jx len)) := by
  go_enter Tryd.func103, Tryd.ntmps103
  go_wp2
  go_loopw [8] (fun t8 wr => ∃ i : Nat, i ≤ len ∧ t8 = .int .i64 i ∧ J i wr) (fun t8 _ => len - (intOf t8).toNat)
  case atStart => exact ⟨0, Nat.zero_le _, rfl, h0⟩
  case round =>
    obtain ⟨i, hi, rfl, hJ⟩ := hrel
    by_cases hlt : i < len
    · obtain ⟨ad, rfl⟩ := hA (by omega)
      have hc := hf i ad wr hlt rfl hJ
      go_wp2_with (go_at_call 131; refine hc.mono ?_; rintro e W1 ⟨b, rfl, hr⟩; rcases hr with ⟨rfl, hr⟩ | ⟨rfl, hr⟩)
      · exact ⟨⟨i + 1, by omega, by go_num, hr⟩, by simp [intOf]; omega⟩
      · go_ret
        exact ⟨false, rfl, .inr ⟨rfl, i, hlt, hr⟩⟩
    · go_wp2
      go_ret
      obtain rfl : i = len := by omega
      exact ⟨true, rfl, .inl ⟨rfl, hJ⟩⟩
end Go.Proofs.YtgkhpecllhiidaaDoor.As
