/- Parse: the parser's state; now, is, may, wrong, must. -/
import Derived.Test.YtnjnadlgndjnbaaDoorYKa
import Derived.Test.YtnjnadlgndjnbaaDoorYHd
set_option linter.unusedVariables false
set_option linter.unusedSimpArgs false
namespace Go.Proofs.YtnjnadlgndjnbaaDoor.Pk
open Go.RowKit Go.Proofs.YtnjnadlgndjnbaaDoorW.PrintWords Go.Proofs.YtnjnadlgndjnbaaDoorW.PrintLast Go.Proofs.YtnjnadlgndjnbaaDoorW.PrintMore Go.Proofs.YtnjnadlgndjnbaaDoor.Lx
structure Pa (w : World) (g : Nat) (A : Option Addr) (c : Nat) (l : List Tk) (i : Nat) (ln cl : Int) : Prop where
  st : w.heap[g]? = some (.cells #[.slice A l.length c, .int .i64 i, .int .i64 ln, .int .i64 cl] 76 (0, 0))
  tk : TksAt w g A l
  len : l.length ≤ 65536
  pos : i ≤ l.length
  txt : ∀ t, t ∈ l → t.text.size ≤ 65536
namespace Pa
variable {w w' : World} {g : Nat} {A : Option Addr} {c : Nat} {l : List Tk} {i : Nat} {ln cl : Int}
theorem c0 (h : Pa w g A c l i ln cl) : w.cell? ⟨g, 0, none⟩ = some (.slice A l.length c) := by simp [World.cell?, h.st]
theorem c1 (h : Pa w g A c l i ln cl) : w.cell? ⟨g, 1, none⟩ = some (.int .i64 i) := by simp [World.cell?, h.st]
theorem c2 (h : Pa w g A c l i ln cl) : w.cell? ⟨g, 2, none⟩ = some (.int .i64 ln) := by simp [World.cell?, h.st]
theorem c3 (h : Pa w g A c l i ln cl) : w.cell? ⟨g, 3, none⟩ = some (.int .i64 cl) := by simp [World.cell?, h.st]
theorem fr (h : Pa w g A c l i ln cl) (j : Nat) : w.frozen? ⟨g, j, none⟩ = false := by simp [World.frozen?, h.st]
theorem lt (h : Pa w g A c l i ln cl) : g < w.heap.size := heap_lt' h.st
theorem below (h : Pa w g A c l i ln cl) (hb : Below w.heap.size w w') : Pa w' g A c l i ln cl :=
  ⟨(hb.block g h.lt).trans h.st, h.tk.step ⟨hb.os, hb.tape, hb.output, hb.size, fun k hk _ => hb.block k hk⟩, h.len, h.pos, h.txt⟩
theorem next (h : Pa w g A c l i ln cl) (hi : i < l.length) : Pa (w.setCell ⟨g, 1, none⟩ (.int .i64 ((i + 1 : Nat) : Int))) g A c l (i + 1) ln cl :=
  ⟨by simp [World.setCell, Array.getElem?_modify, h.st], h.tk.step (grown_set ⟨rfl, rfl, rfl, Nat.le_refl _, fun _ _ _ => rfl⟩ _ _), h.len, hi, h.txt⟩
end Pa
def nowT (l : List Tk) (i : Nat) (ln cl : Int) : Tk := (l[i]?).getD { kind := 0, text := ⟨#[]⟩, line := ln, col := cl, num := 0 }
theorem grown_refl (w : World) (r : Option Nat) : w.grownBy w r := ⟨rfl, rfl, rfl, Nat.le_refl _, fun _ _ _ => rfl⟩
theorem grown_of_below {w w' : World} (h : Below w.heap.size w w') (r : Option Nat) : w.grownBy w' r := ⟨h.os, h.tape, h.output, h.size, fun k hk _ => h.block k hk⟩
theorem nowT_txt {w : World} {g : Nat} {A : Option Addr} {c : Nat} {l : List Tk} {i : Nat} {ln cl : Int} (h : Pa w g A c l i ln cl) : (nowT l i ln cl).text.size ≤ 65536 := by
  unfold nowT
  cases ht : l[i]? with
  | none => exact Nat.zero_le _
  | some t => exact h.txt t (List.mem_of_getElem? ht)
set_option maxRecDepth 100000 in
theorem now_any {w : World} {g : Nat} {A : Option Addr} {c : Nat} {l : List Tk} {i : Nat} {ln cl : Int} (h : Pa w g A c l i ln cl) :
    Calls Tryd.prog 42 #[.pointer (some ⟨g, 0, none⟩)] w fun e w' => e = .returned (.agg #[.int .i64 (nowT l i ln cl).kind, .string (nowT l i ln cl).text, .int .i64 (nowT l i ln cl).line, .int .i64 (nowT l i ln cl).col, .int .u32 (nowT l i ln cl).num]) ∧ Below w.heap.size w w' := by
  have hlen := h.len
  have hg := h.lt
  have hc0 := h.c0
  have hc1 := h.c1
  by_cases hi : i < l.length
  · obtain ⟨t, ht⟩ : ∃ t, l[i]? = some t := ⟨_, List.getElem?_eq_getElem hi⟩
    obtain ⟨b, rfl, hne, hlt, hc⟩ := h.tk.at_ i t ht
    have hn : nowT l i ln cl = t := by unfold nowT; rw [ht]; rfl
    rw [hn]
    have k0 : w.cell? ⟨b, i * 5, none⟩ = some (.int .i64 t.kind) := hc 0 _ rfl
    have k1 := hc 1 _ rfl
    have k2 := hc 2 _ rfl
    have k3 := hc 3 _ rfl
    have k4 := hc 4 _ rfl
    have hlt' : (i : Int) < (l.length : Int) := by omega
    generalize hL : l.length = L at *
    clear hn hc ht h
    go_enter Tryd.func42, Tryd.ntmps42
    go_wp2
    go_quiet (fail)
    go_wp2
    go_region
    go_wp2
    have hN := (((((((NewB.alloc w #[.int .i64 0, .string ⟨#[]⟩, .int .i64 0, .int .i64 0, .int .u32 0] 99).drewN (nq + 1)).put 0 (.int .i64 t.kind) rfl).put 1 (.string t.text) rfl).put 2 (.int .i64 t.line) rfl).put 3 (.int .i64 t.col) rfl).put 4 (.int .u32 t.num) rfl)
    refine bodyPost_ret (results_cell_row rfl _ _ _ 99 _ (0, 0) _ rfl hN.1 Tryd.underlying99 rfl (by kernel_rfl)) rfl ?_
    exact ⟨rfl, hN.2.1⟩
  · have hge : ¬ ((i : Int) < (l.length : Int)) := by omega
    have hn : nowT l i ln cl = { kind := 0, text := ⟨#[]⟩, line := ln, col := cl, num := 0 } := by unfold nowT; rw [List.getElem?_eq_none (by omega)]; rfl
    rw [hn]
    have hc2 := h.c2
    have hc3 := h.c3
    generalize hL : l.length = L at *
    clear hn h
    go_enter Tryd.func42, Tryd.ntmps42
    go_wp2
    go_quiet (fail)
    go_wp2
    go_region
    go_wp2
    have hN := (((((((NewB.alloc w #[.int .i64 0, .string ⟨#[]⟩, .int .i64 0, .int .i64 0, .int .u32 0] 99).drewN (nq + 1)).put 0 (.int .i64 0) rfl).put 1 (.string ⟨#[]⟩) rfl).put 2 (.int .i64 ln) rfl).put 3 (.int .i64 cl) rfl).put 4 (.int .u32 0) rfl)
    refine bodyPost_ret (results_cell_row rfl _ _ _ 99 _ (0, 0) _ rfl hN.1 Tryd.underlying99 rfl (by kernel_rfl)) rfl ?_
    exact ⟨rfl, hN.2.1⟩
def isK (s : ByteArray) (t : Tk) : Bool := (t.kind == 2 || t.kind == 4) && t.text.toList == s.toList
section
variable {w : World} {g : Nat} {A : Option Addr} {c : Nat} {l : List Tk} {i : Nat} {ln cl : Int}
theorem below_one {w w1 : World} (hb : Below w.heap.size w w1) (o : Obj) : Below w.heap.size w (w1.alloc o) := hb.alloc hb.size o
theorem is_any (s : ByteArray) (h : Pa w g A c l i ln cl) :
    Calls Tryd.prog 28 #[.pointer (some ⟨g, 0, none⟩), .string s] w fun e w' => e = .returned (.bool (isK s (nowT l i ln cl))) ∧ Below w.heap.size w w' := by
  go_enter Tryd.func28, Tryd.ntmps28
  go_wp2_with (go_at_call 42; refine (now_any h).mono ?_; rintro e w1 ⟨rfl, hb⟩)
  all_goals (go_ret; exact ⟨ret_bool (by simp [isK, *]), below_one hb _⟩)
theorem may_any (s : ByteArray) (hp : Pa w g A c l i ln cl) (hK : isK s (nowT l i ln cl) = true → i < l.length) :
    Calls Tryd.prog 38 #[.pointer (some ⟨g, 0, none⟩), .string s] w fun e w' => e = .returned (.bool (isK s (nowT l i ln cl))) ∧ Pa w' g A c l (if isK s (nowT l i ln cl) = true then i + 1 else i) ln cl ∧ w.grownBy w' (some g) := by
  cases hb : isK s (nowT l i ln cl) with
  | false =>
    go_enter Tryd.func38, Tryd.ntmps38
    go_wp2_with (go_at_call 28; refine (is_any s hp).mono ?_; rintro e w1 ⟨rfl, hB⟩; rw [hb])
    go_ret
    exact ⟨rfl, hp.below hB, grown_of_below hB _⟩
  | true =>
    have hi := hK hb
    have hl := hp.len
    have e1 : IntKind.i64.wrap ((i : Int) + 1) = (i : Int) + 1 := IntWalk.i64_in _ (by omega)
    go_enter Tryd.func38, Tryd.ntmps38
    go_wp2_with (go_at_call 28; refine (is_any s hp).mono ?_; rintro e w1 ⟨rfl, hB⟩; rw [hb]; have hP := hp.below hB; have hc1 := hP.c1; have hf1 := hP.fr 1)
    go_ret
    exact ⟨rfl, hP.next hi, grown_set (grown_of_below hB _) _ _⟩
def thrown (t : Tk) : Value := .iface 87 (.agg #[.int .i64 14, .int .i64 t.line, .int .i64 t.col])
theorem wrong_any (h : Pa w g A c l i ln cl) :
    Calls Tryd.prog 39 #[.pointer (some ⟨g, 0, none⟩)] w fun e w' => e = .panicked [{ v := thrown (nowT l i ln cl), recovered := false }] ∧ Below w.heap.size w w' := by
  go_enter Tryd.func39, Tryd.ntmps39
  go_wp2_with (go_at_call 42; refine (now_any h).mono ?_; rintro e w1 ⟨rfl, hb⟩)
  exact ⟨rfl, rfl, below_one hb _⟩
end
end Go.Proofs.YtnjnadlgndjnbaaDoor.Pk
