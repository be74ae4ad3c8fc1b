/- The contracts of lexer.skip and lex.Line. -/
import Derived.Test.YtnjnadlgndjnbaaDoorYHa
import Derived.Lib.ConvBytes
set_option linter.unusedVariables false
set_option linter.unusedSimpArgs false
namespace Go.Proofs.YtnjnadlgndjnbaaDoor.Lx
open Go.RowKit
def LexSt (w : World) (g : Nat) (s : ByteArray) (i line col : Int) (v : Value) (bad : Bool) : Prop :=
  w.heap[g]? = some (.cells #[.string s, .int .i64 i, .int .i64 line, .int .i64 col, v, .bool bad] 113 (0, 0))
section
variable {w : World} {g : Nat} {s : ByteArray} {i line col : Int} {v : Value} {bad : Bool}
theorem LexSt.c0 (h : LexSt w g s i line col v bad) : w.cell? ⟨g, 0, none⟩ = some (.string s) := by unfold LexSt at h; simp [World.cell?, h]
theorem LexSt.c1 (h : LexSt w g s i line col v bad) : w.cell? ⟨g, 1, none⟩ = some (.int .i64 i) := by unfold LexSt at h; simp [World.cell?, h]
theorem LexSt.c2 (h : LexSt w g s i line col v bad) : w.cell? ⟨g, 2, none⟩ = some (.int .i64 line) := by unfold LexSt at h; simp [World.cell?, h]
theorem LexSt.c3 (h : LexSt w g s i line col v bad) : w.cell? ⟨g, 3, none⟩ = some (.int .i64 col) := by unfold LexSt at h; simp [World.cell?, h]
theorem LexSt.c4 (h : LexSt w g s i line col v bad) : w.cell? ⟨g, 4, none⟩ = some v := by unfold LexSt at h; simp [World.cell?, h]
theorem LexSt.c5 (h : LexSt w g s i line col v bad) : w.cell? ⟨g, 5, none⟩ = some (.bool bad) := by unfold LexSt at h; simp [World.cell?, h]
theorem LexSt.fr (h : LexSt w g s i line col v bad) (j : Nat) : w.frozen? ⟨g, j, none⟩ = false := by unfold LexSt at h; simp [World.frozen?, h]
theorem LexSt.lt (h : LexSt w g s i line col v bad) : g < w.heap.size := (Array.getElem?_eq_some_iff.1 h).1
theorem LexSt.of {w' : World} (h : LexSt w g s i line col v bad) (e : w'.heap[g]? = w.heap[g]?) : LexSt w' g s i line col v bad := e.trans h
theorem LexSt.below {w' : World} (h : LexSt w g s i line col v bad) (hb : Below w.heap.size w w') : LexSt w' g s i line col v bad := h.of (hb.block g h.lt)
theorem LexSt.set1 (h : LexSt w g s i line col v bad) (x : Int) : LexSt (w.setCell ⟨g, 1, none⟩ (.int .i64 x)) g s x line col v bad := by
  unfold LexSt at h ⊢; simp [World.setCell, Array.getElem?_modify, h]
theorem LexSt.set2 (h : LexSt w g s i line col v bad) (x : Int) : LexSt (w.setCell ⟨g, 2, none⟩ (.int .i64 x)) g s i x col v bad := by
  unfold LexSt at h ⊢; simp [World.setCell, Array.getElem?_modify, h]
theorem LexSt.set3 (h : LexSt w g s i line col v bad) (x : Int) : LexSt (w.setCell ⟨g, 3, none⟩ (.int .i64 x)) g s i line x v bad := by
  unfold LexSt at h ⊢; simp [World.setCell, Array.getElem?_modify, h]
theorem LexSt.set4 (h : LexSt w g s i line col v bad) (x : Value) : LexSt (w.setCell ⟨g, 4, none⟩ x) g s i line col x bad := by
  unfold LexSt at h ⊢; simp [World.setCell, Array.getElem?_modify, h]
theorem LexSt.set5 (h : LexSt w g s i line col v bad) (x : Bool) : LexSt (w.setCell ⟨g, 5, none⟩ (.bool x)) g s i line col v x := by
  unfold LexSt at h ⊢; simp [World.setCell, Array.getElem?_modify, h]
end
def adv (s : ByteArray) (i : Nat) (lc : Int × Int) : Nat → Int × Int
  | 0 => lc
  | n + 1 => let r := adv s i lc n; if bt s (i + n) = 10 then (r.1 + 1, 1) else (r.1, r.2 + 1)
theorem adv_bound (s : ByteArray) (i : Nat) (lc : Int × Int) (h1 : 0 ≤ lc.1) (h2 : 0 ≤ lc.2) : ∀ n : Nat, 0 ≤ (adv s i lc n).1 ∧ (adv s i lc n).1 ≤ lc.1 + n ∧ 0 ≤ (adv s i lc n).2 ∧ (adv s i lc n).2 ≤ lc.2 + n + 1 := by
  intro n; induction n with
  | zero => simp [adv, h1, h2]; omega
  | succ n ih =>
    simp only [adv]; split <;> (refine ⟨?_, ?_, ?_, ?_⟩ <;> simp <;> omega)
theorem bt_list (s : ByteArray) (k : Nat) : bt s k = ((s.data.toList.getD k 0).toNat : Int) := by
  unfold bt
  split
  · rename_i h
    rw [List.getD_eq_getElem?_getD, List.getElem?_eq_getElem (by simpa using h)]
    rfl
  · rename_i h
    rw [List.getD_eq_getElem?_getD, List.getElem?_eq_none (by simpa using h)]
    rfl
theorem bytes_block (w : World) (e : TypeId) (t : ByteArray) (i n : Nat) (s : ByteArray) (h : t = s.extract i (i + n)) (hin : i + n ≤ s.size) (j : Nat) (hj : j < n) :
    (Lib.bytesWorld w e t).cell? ⟨w.heap.size, j, none⟩ = some (.int .u8 (bt s (i + j))) := by
  subst h
  have hz : (s.extract i (i + n)).size = n := by simp; omega
  rw [Lib.bytesWorld_cell w e _ j (by omega), ← bt_extract s i n j hin hj, bt_list]
theorem grown_bytes (w : World) (e : TypeId) (t : ByteArray) (r : Option Nat) : w.grownBy (Lib.bytesWorld w.drew e t) r :=
  ⟨rfl, rfl, rfl, by rw [Lib.bytesWorld_size]; simp, fun k hk _ => Lib.bytesWorld_at_old w.drew e t k hk⟩
theorem far_cell (w : World) {p a : Addr} (u : Value) (h : a.block ≠ p.block) : (w.setCell p u).cell? a = w.cell? a := World.cell?_of_block (Below.heap_setCell w p u a.block h)
set_option maxRecDepth 100000 in
set_option maxHeartbeats 1000000 in
theorem skip_any (g : Nat) (s : ByteArray) (i n : Nat) (line col : Int) (v : Value) (bad : Bool) (w : World) (hs : s.size ≤ 140737488351232) (hin : i + n ≤ s.size)
    (hl0 : 0 ≤ line) (hl1 : line ≤ 140737488351233) (hk0 : 0 ≤ col) (hk1 : col ≤ 140737488351233) (h : LexSt w g s i line col v bad) :
    Calls Tryd.prog 54 #[.pointer (some ⟨g, 0, none⟩), .int .i64 n] w fun e w' => e = .returned (.tuple #[]) ∧ LexSt w' g s ((i : Int) + n) (adv s i (line, col) n).1 (adv s i (line, col) n).2 v bad ∧ w.grownBy w' (some g) := by
  have hc0 := h.c0
  have hc1 := h.c1
  have hgl := h.lt
  have e1 : IntKind.i64.wrap ((i : Int) + n) = (i : Int) + n := IntWalk.i64_in _ (by omega)
  have hcv := fun w s => Lib.run_convert_string_bytes (P := Tryd.prog) w 9 126 5 s Tryd.underlying9 Tryd.underlying126 Tryd.underlying5
  go_enter Tryd.func54, Tryd.ntmps54
  go_wp2
  go_region
  clear hcv hc0 hc1
  have hG0 := grown_bytes w 5 (s.extract i (i + n)) (some g)
  have hS0 := h.of (Lib.bytesWorld_at_old w.drew 5 (s.extract i (i + n)) g hgl)
  have hB0 : ∀ j, j < n → (Lib.bytesWorld w.drew 5 (s.extract i (i + n))).cell? ⟨w.heap.size, j, none⟩ = some (.int .u8 (bt s (i + j))) := fun j hj => bytes_block w.drew 5 _ i n s rfl hin j hj
  have hS := Hd.mk hS0
  have hG := Hd.mk hG0
  have hB := Hd.mk hB0
  clear hS0 hG0 hB0
  revert hS hG hB
  generalize Lib.bytesWorld w.drew 5 (s.extract i (i + n)) = w1
  intro hS hG hB
  go_wp2
  go_loopw [23] (fun t wr => ∃ k : Nat, k ≤ n ∧ t = .int .i64 k ∧ Hd (LexSt wr g s i (adv s i (line, col) k).1 (adv s i (line, col) k).2 v bad) ∧ Hd (w.grownBy wr (some g)) ∧ Hd (∀ j, j < n → wr.cell? ⟨w.heap.size, j, none⟩ = some (.int .u8 (bt s (i + j))))) (fun t _ => n - (intOf t).toNat)
  case atStart => exact ⟨0, Nat.zero_le _, rfl, hS, hG, hB⟩
  case round =>
    clear hS hG hB
    obtain ⟨k, hk, rfl, hS, hG, hB⟩ := hrel
    have hbd := adv_bound s i (line, col) hl0 hk0 k
    simp only at hbd
    by_cases hlt : k < n
    · have hc := hB.out k hlt
      have hc2 := hS.out.c2
      have hc3 := hS.out.c3
      have hf2 := hS.out.fr 2
      have hf3 := hS.out.fr 3
      have hadv := Hd.mk (rfl : adv s i (line, col) (k + 1) = _)
      by_cases h10 : bt s (i + k) = 10
      all_goals
        generalize hL : (adv s i (line, col) k).1 = L at *
        generalize hC : (adv s i (line, col) k).2 = C at *
        go_wp2
        clear hc hc2 hc3 hf2 hf3
      · refine ⟨⟨k + 1, by omega, by go_num, ⟨?_⟩, ⟨grown_set (grown_set (grown_set hG.out _ _) _ _) _ _⟩, ⟨fun j hj => ?_⟩⟩, by simp [intOf]; omega⟩
        · have := (((hS.out).set3 (C + 1)).set2 (L + 1)).set3 1
          simp only [adv, h10, hL, hC, if_true]
          exact this
        · rw [far_cell _ _ (by simp; omega), far_cell _ _ (by simp; omega), far_cell _ _ (by simp; omega)]
          exact hB.out j hj
      · refine ⟨⟨k + 1, by omega, by go_num, ⟨?_⟩, ⟨grown_set hG.out _ _⟩, ⟨fun j hj => ?_⟩⟩, by simp [intOf]; omega⟩
        · have := (hS.out).set3 (C + 1)
          simp only [adv, h10, hL, hC, if_false]
          exact this
        · rw [far_cell _ _ (by simp; omega)]
          exact hB.out j hj
    · obtain rfl : k = n := by omega
      have hc1 := hS.out.c1
      have hf1 := hS.out.fr 1
      have e2 : IntKind.i64.wrap ((i : Int) + k) = (i : Int) + k := IntWalk.i64_in _ (by omega)
      go_wp2
      go_end0
      exact ⟨rfl, (hS.out).set1 _, grown_set hG.out _ _⟩
theorem skip_int (g : Nat) (s : ByteArray) (i n : Int) (line col : Int) (v : Value) (bad : Bool) (w : World) (hs : s.size ≤ 140737488351232) (hi : 0 ≤ i) (hn : 0 ≤ n) (hin : i + n ≤ s.size)
    (hl0 : 0 ≤ line) (hl1 : line ≤ 140737488351233) (hk0 : 0 ≤ col) (hk1 : col ≤ 140737488351233) (h : LexSt w g s i line col v bad) :
    Calls Tryd.prog 54 #[.pointer (some ⟨g, 0, none⟩), .int .i64 n] w fun e w' => e = .returned (.tuple #[]) ∧ LexSt w' g s (i + n) (adv s i.toNat (line, col) n.toNat).1 (adv s i.toNat (line, col) n.toNat).2 v bad ∧ w.grownBy w' (some g) := by
  obtain ⟨i, rfl⟩ := Int.eq_ofNat_of_zero_le hi
  obtain ⟨n, rfl⟩ := Int.eq_ofNat_of_zero_le hn
  exact skip_any g s i n line col v bad w hs (by omega) hl0 hl1 hk0 hk1 h
theorem heap_new (w : World) (o : Obj) : (w.alloc o).heap[w.heap.size]? = some o := by
  show (w.heap.push o)[w.heap.size]? = some o
  simp
theorem lexNew (w : World) (s : ByteArray) : LexSt (w.alloc (.cells #[.string s, .int .i64 0, .int .i64 1, .int .i64 1, .slice none 0 0, .bool false] 113)) w.heap.size s 0 1 1 (.slice none 0 0) false := by
  unfold LexSt; exact heap_new w _
def clampI (s : ByteArray) (a : Int) : Nat := (min (s.size : Int) (max 0 a)).toNat
theorem pw_below_drewN' {B : Nat} {w W : World} (h : Below B w W) (n : Nat) : Below B w (W.drewN n) := ⟨h.os, h.tape, h.output, h.size, h.block⟩
theorem below_own {w W : World} {o : Obj} (h : (w.alloc o).grownBy W (some w.heap.size)) : Below w.heap.size w W :=
  ((Below.refl _ _).alloc (Nat.le_refl _) o).trans (below_of_grown h (by simp) (Nat.le_refl _))
theorem ret_two {a b c d : Int} (h1 : a = c) (h2 : b = d) : Ending.returned (.tuple #[.int .i64 a, .int .i64 b]) = .returned (.tuple #[.int .i64 c, .int .i64 d]) := by rw [h1, h2]
set_option maxRecDepth 100000 in
set_option maxHeartbeats 400000 in
theorem line_any (s : ByteArray) (a : Int) (w : World) (hs : s.size ≤ 140737488351232) :
    Calls Tryd.prog 36 #[.string s, .int .i64 a] w fun e w' => e = .returned (.tuple #[.int .i64 (adv s 0 (1, 1) (clampI s a)).1, .int .i64 (adv s 0 (1, 1) (clampI s a)).2]) ∧ Below w.heap.size w w' := by
  go_enter Tryd.func36, Tryd.ntmps36
  go_wp2_with (go_at_call 54; (refine (skip_int w.heap.size s 0 _ 1 1 (.slice none 0 0) false _ hs (by omega) (by omega) (by omega) (by omega) (by omega) (by omega) (by omega) (lexNew w s)).mono ?_); rintro e w1 ⟨rfl, hS, hG⟩; have hc2 := hS.c2; have hc3 := hS.c3; have HS := Hd.mk hS; have HG := Hd.mk hG; clear hS hG)
  all_goals
    go_quiet (fail)
    go_wp2
    go_ret2
    exact ⟨ret_two (congrArg (fun n => (adv s 0 (1, 1) n).1) (by unfold clampI; omega)) (congrArg (fun n => (adv s 0 (1, 1) n).2) (by unfold clampI; omega)), pw_below_drewN' (below_own HG.out) _⟩
end Go.Proofs.YtnjnadlgndjnbaaDoor.Lx
