/- Parse: must, name, number, isType, typ, end. -/
import Derived.Test.YtnjnadlgndjnbaaDoorYKb
import Derived.Test.YtnjnadlgndjnbaaDoorYFa
set_option linter.unusedVariables false
set_option linter.unusedSimpArgs false
namespace Go.Proofs.YtnjnadlgndjnbaaDoor.Pk
open Go.RowKit Go.Proofs.YtnjnadlgndjnbaaDoorW.PrintWords Go.Proofs.YtnjnadlgndjnbaaDoorW.PrintLast Go.Proofs.YtnjnadlgndjnbaaDoorW.PrintMore Go.Proofs.YtnjnadlgndjnbaaDoor.Lx
def typN (s : ByteArray) : Int := Fp.typeOf s.data.toList
def signL : List (List UInt8 × Int) := [([33, 61], 15), ([37], 5), ([38], 8), ([42], 3), ([43], 1), ([45], 2), ([47], 4), ([60], 16), ([60, 60], 11), ([60, 61], 17), ([61, 61], 14), ([62], 20), ([62, 61], 21), ([62, 62], 12), ([94], 10), ([124], 9)]
def signN (s : ByteArray) : Int := ((signL.find? (fun p => p.1 == s.data.toList)).map (·.2)).getD 0
def levT (n : Nat) : List ByteArray := (Fp.levelOps n).map fun o => ⟨o.1.toArray⟩
structure PW (w : World) : Prop where
  keys : Keys w
  types : ∃ bm, bm < w.heap.size ∧ 2 < w.heap.size ∧ w.cell? ⟨2, 0, none⟩ = some (.map (some bm)) ∧ ∀ w' : World, w'.heap[bm]? = w.heap[bm]? → ∀ s : ByteArray, s.size ≤ 140737488351232 → (Instr.lookup 71 (.map (some bm)) (.string s) true).run Tryd.prog w' = .ok (.tuple #[.int .i64 (typN s), .bool (typN s != 0)]) w'
  signs : ∃ bm, bm < w.heap.size ∧ 1 < w.heap.size ∧ w.cell? ⟨1, 0, none⟩ = some (.map (some bm)) ∧ ∀ w' : World, w'.heap[bm]? = w.heap[bm]? → ∀ s : ByteArray, s.size ≤ 140737488351232 → (Instr.lookup 71 (.map (some bm)) (.string s) false).run Tryd.prog w' = .ok (.int .i64 (signN s)) w'
  levels : 0 < w.heap.size ∧ ∀ n, n ≤ 8 → ∃ A c, w.cell? ⟨0, n, none⟩ = some (.slice A (levT n).length c) ∧ (levT n).length ≤ c ∧ Kd.C Kd.string w A (levT n).length (levT n)
theorem PW.below {w w' : World} (h : PW w) (hb : Below w.heap.size w w') : PW w' := by
  refine ⟨h.keys.below hb, ?_, ?_, ?_⟩
  · obtain ⟨bm, h1, h2, h3, h4⟩ := h.types
    exact ⟨bm, Nat.lt_of_lt_of_le h1 hb.size, Nat.lt_of_lt_of_le h2 hb.size, (World.cell?_of_block (hb.block _ h2)).trans h3, fun w2 hw => h4 w2 (hw.trans (hb.block _ h1))⟩
  · obtain ⟨bm, h1, h2, h3, h4⟩ := h.signs
    exact ⟨bm, Nat.lt_of_lt_of_le h1 hb.size, Nat.lt_of_lt_of_le h2 hb.size, (World.cell?_of_block (hb.block _ h2)).trans h3, fun w2 hw => h4 w2 (hw.trans (hb.block _ h1))⟩
  · refine ⟨Nat.lt_of_lt_of_le h.levels.1 hb.size, fun n hn => ?_⟩
    obtain ⟨A, c, h1, h2, h3⟩ := h.levels.2 n hn
    exact ⟨A, c, (World.cell?_of_block (hb.block _ h.levels.1)).trans h1, h2, Kd.C_below h3 hb⟩
def Pv (B : Nat) (w : World) : Prop := ∃ w0, w0.heap.size = B ∧ PW w0 ∧ Below B w0 w
theorem Pv.now {B : Nat} {w : World} (h : Pv B w) : PW w := by obtain ⟨w0, rfl, h1, h2⟩ := h; exact h1.below h2
theorem Pv.size {B : Nat} {w : World} (h : Pv B w) : B ≤ w.heap.size := by obtain ⟨w0, rfl, h1, h2⟩ := h; exact h2.size
theorem Pv.below {B : Nat} {w w' : World} (h : Pv B w) (hb : Below w.heap.size w w') : Pv B w' := by
  obtain ⟨w0, rfl, h1, h2⟩ := h
  exact ⟨w0, rfl, h1, below_trans h2 h2.size hb⟩
theorem Pv.grown {B g : Nat} {w w' : World} (h : Pv B w) (hg : w.grownBy w' (some g)) (hB : B ≤ g) : Pv B w' := by
  obtain ⟨w0, rfl, h1, h2⟩ := h
  exact ⟨w0, rfl, h1, h2.trans (below_of_grown hg h2.size hB)⟩
theorem Pv.of {w : World} (h : PW w) : Pv w.heap.size w := ⟨w, rfl, h, Below.refl _ _⟩
section
variable {w : World} {g : Nat} {A : Option Addr} {c : Nat} {l : List Tk} {i : Nat} {ln cl : Int}
theorem must_ok (s : ByteArray) (hp : Pa w g A c l i ln cl) (hK : isK s (nowT l i ln cl) = true) (hi : i < l.length) :
    Calls Tryd.prog 24 #[.pointer (some ⟨g, 0, none⟩), .string s] w fun e w' => e = .returned (.tuple #[]) ∧ Pa w' g A c l (i + 1) ln cl ∧ w.grownBy w' (some g) := by
  have hm := may_any s hp (fun _ => hi)
  rw [hK] at hm
  simp only [if_true] at hm
  go_enter Tryd.func24, Tryd.ntmps24
  go_wp2_with (go_at_call 38; refine hm.mono ?_; rintro e w1 ⟨rfl, hp1, hg1⟩)
  go_end0
  exact ⟨rfl, hp1, hg1⟩
theorem must_bad (s : ByteArray) (hp : Pa w g A c l i ln cl) (hK : isK s (nowT l i ln cl) = false) :
    Calls Tryd.prog 24 #[.pointer (some ⟨g, 0, none⟩), .string s] w fun e w' => e = .panicked [{ v := thrown (nowT l i ln cl), recovered := false }] ∧ w.grownBy w' (some g) := by
  have hm := may_any s hp (fun h => absurd (hK.symm.trans h) (by decide))
  rw [hK] at hm
  simp only [Bool.false_eq_true, if_false] at hm
  go_enter Tryd.func24, Tryd.ntmps24
  go_wp2_with (first | (go_at_call 38; refine hm.mono ?_; rintro e w1 ⟨rfl, hp1, hg1⟩) | (go_at_call 39; refine (wrong_any hp1).mono ?_; rintro e w2 ⟨rfl, hb2⟩))
  exact ⟨rfl, rfl, grown_below hg1 hb2⟩
theorem name_ok (hp : Pa w g A c l i ln cl) (hK : (nowT l i ln cl).kind = 1) (hi : i < l.length) :
    Calls Tryd.prog 44 #[.pointer (some ⟨g, 0, none⟩)] w fun e w' => e = .returned (.string (nowT l i ln cl).text) ∧ Pa w' g A c l (i + 1) ln cl ∧ w.grownBy w' (some g) := by
  have hl := hp.len
  have e1 : IntKind.i64.wrap ((i : Int) + 1) = (i : Int) + 1 := IntWalk.i64_in _ (by omega)
  have hn := now_any hp
  rw [hK] at hn
  go_enter Tryd.func44, Tryd.ntmps44
  go_wp2_with (go_at_call 42; refine hn.mono ?_; rintro e w1 ⟨rfl, hB⟩; have hP := hp.below hB; have hc1 := hP.c1; have hf1 := hP.fr 1; have hlt := hP.lt)
  go_ret
  exact ⟨rfl, (hP.next hi).below (below_alloc (Below.refl _ _) _), grown_alloc (grown_set (grown_of_below hB _) _ _) _⟩
theorem name_bad (hp : Pa w g A c l i ln cl) (hK : ¬ (nowT l i ln cl).kind = 1) :
    Calls Tryd.prog 44 #[.pointer (some ⟨g, 0, none⟩)] w fun e w' => e = .panicked [{ v := thrown (nowT l i ln cl), recovered := false }] ∧ w.grownBy w' (some g) := by
  go_enter Tryd.func44, Tryd.ntmps44
  go_wp2_with (first | (go_at_call 42; refine (now_any hp).mono ?_; rintro e w1 ⟨rfl, hB⟩; have hP := hp.below (below_one hB (.cells #[.int .i64 (nowT l i ln cl).kind, .string (nowT l i ln cl).text, .int .i64 (nowT l i ln cl).line, .int .i64 (nowT l i ln cl).col, .int .u32 (nowT l i ln cl).num] 99))) | (go_at_call 39; refine (wrong_any hP).mono ?_; rintro e w2 ⟨rfl, hb2⟩))
  exact ⟨rfl, rfl, grown_below (grown_of_below (below_one hB _) _) hb2⟩
theorem number_ok (hp : Pa w g A c l i ln cl) (hK : (nowT l i ln cl).kind = 3) (hi : i < l.length) :
    Calls Tryd.prog 25 #[.pointer (some ⟨g, 0, none⟩)] w fun e w' => e = .returned (.int .u32 (nowT l i ln cl).num) ∧ Pa w' g A c l (i + 1) ln cl ∧ w.grownBy w' (some g) := by
  have hl := hp.len
  have e1 : IntKind.i64.wrap ((i : Int) + 1) = (i : Int) + 1 := IntWalk.i64_in _ (by omega)
  have hn := now_any hp
  rw [hK] at hn
  go_enter Tryd.func25, Tryd.ntmps25
  go_wp2_with (go_at_call 42; refine hn.mono ?_; rintro e w1 ⟨rfl, hB⟩; have hP := hp.below hB; have hc1 := hP.c1; have hf1 := hP.fr 1; have hlt := hP.lt)
  go_ret
  exact ⟨rfl, (hP.next hi).below (below_alloc (Below.refl _ _) _), grown_alloc (grown_set (grown_of_below hB _) _ _) _⟩
theorem number_bad (hp : Pa w g A c l i ln cl) (hK : ¬ (nowT l i ln cl).kind = 3) :
    Calls Tryd.prog 25 #[.pointer (some ⟨g, 0, none⟩)] w fun e w' => e = .panicked [{ v := thrown (nowT l i ln cl), recovered := false }] ∧ w.grownBy w' (some g) := by
  go_enter Tryd.func25, Tryd.ntmps25
  go_wp2_with (first | (go_at_call 42; refine (now_any hp).mono ?_; rintro e w1 ⟨rfl, hB⟩; have hP := hp.below (below_one hB (.cells #[.int .i64 (nowT l i ln cl).kind, .string (nowT l i ln cl).text, .int .i64 (nowT l i ln cl).line, .int .i64 (nowT l i ln cl).col, .int .u32 (nowT l i ln cl).num] 99))) | (go_at_call 39; refine (wrong_any hP).mono ?_; rintro e w2 ⟨rfl, hb2⟩))
  exact ⟨rfl, rfl, grown_below (grown_of_below (below_one hB _) _) hb2⟩
theorem heap_one (w : World) (o : Obj) {k : Nat} (h : k < w.heap.size) : (w.alloc o).heap[k]? = w.heap[k]? := (below_alloc (Below.refl w.heap.size w) o).block k h
set_option maxRecDepth 100000 in
theorem isType_any {B : Nat} (hp : Pa w g A c l i ln cl) (hv : Pv B w) :
    Calls Tryd.prog 26 #[.pointer (some ⟨g, 0, none⟩)] w fun e w' => e = .returned (.tuple #[.int .i64 (typN (nowT l i ln cl).text), .bool (typN (nowT l i ln cl).text != 0 && (nowT l i ln cl).kind == 2)]) ∧ Below w.heap.size w w' := by
  have hs := nowT_txt hp
  cases hb : (typN (nowT l i ln cl).text != 0)
  all_goals
    go_enter Tryd.func26, Tryd.ntmps26
    go_wp2_with (go_at_call 42; refine (now_any hp).mono ?_; rintro e w1 ⟨rfl, hB⟩; obtain ⟨bm, hm1, hm2, hm3, hm4⟩ := (hv.below hB).now.types; have hlk := hm4 _ (heap_one w1 (.cells #[.int .i64 (nowT l i ln cl).kind, .string (nowT l i ln cl).text, .int .i64 (nowT l i ln cl).line, .int .i64 (nowT l i ln cl).col, .int .u32 (nowT l i ln cl).num] 99) hm1) (nowT l i ln cl).text (by omega); rw [hb] at hlk; clear hm4 hb)
    go_region
    go_wp2
    go_ret2
  · exact ⟨rfl, pw_below_drewN (below_one hB _) _⟩
  · exact ⟨rfl, pw_below_drewN (below_one hB _) _⟩
end
end Go.Proofs.YtnjnadlgndjnbaaDoor.Pk
