/- Parse: begin, end, judge, long, catch. -/
import Derived.Test.YtnjnadlgndjnbaaDoorYKk
import Derived.Test.YtnjnadlgndjnbaaDoorYGp
import Derived.Recover
set_option linter.unusedVariables false
set_option linter.unusedSimpArgs false
namespace Go.Proofs.YtnjnadlgndjnbaaDoor.Pk
open Go.RowKit Go.Proofs.YtnjnadlgndjnbaaDoorW.PrintWords Go.Proofs.YtnjnadlgndjnbaaDoorW.PrintLast Go.Proofs.YtnjnadlgndjnbaaDoorW.PrintMore Go.Proofs.YtnjnadlgndjnbaaDoor.Lx
abbrev Flt := Int × Int × Int
def fltV (f : Flt) : Value := .agg #[.int .i64 f.1, .int .i64 f.2.1, .int .i64 f.2.2]
def thrownF (f : Flt) : Value := .iface 87 (fltV f)
theorem long_any (w : World) : Calls Tryd.prog 40 #[] w fun e w' => e = .panicked [{ v := thrownF (3, 0, 0), recovered := false }] ∧ w = w' := by
  go_enter Tryd.func40, Tryd.ntmps40
  go_wp2
  exact ⟨rfl, rfl, rfl⟩
theorem judge_ok (w : World) : Calls Tryd.prog 20 #[.int .i64 0] w fun e w' => e = .returned (.tuple #[]) ∧ w = w' := by
  go_enter Tryd.func20, Tryd.ntmps20
  go_wp2
  go_end0
  exact ⟨rfl, rfl⟩
theorem judge_bad (c : Int) (hc : ¬ c = 0) (w : World) : Calls Tryd.prog 20 #[.int .i64 c] w fun e w' => e = .panicked [{ v := thrownF (if c = 3 then 3 else 14, 0, 0), recovered := false }] ∧ w = w' := by
  by_cases h3 : c = 3
  · subst h3
    go_enter Tryd.func20, Tryd.ntmps20
    go_wp2_with (first | (go_at_call 40; (with_reducible refine (long_any _).mono ?_); rintro e w1 ⟨rfl, rfl⟩) | fail)
    exact ⟨rfl, rfl, rfl⟩
  · rw [if_neg h3]
    go_enter Tryd.func20, Tryd.ntmps20
    go_wp2
    exact ⟨rfl, rfl, rfl⟩
section
variable {w : World} {g : Nat} {A : Option Addr} {c : Nat} {l : List Tk} {i : Nat} {ln cl : Int}
theorem end_ok (hp : Pa w g A c l i ln cl) (h : ¬ i < l.length) :
    Calls Tryd.prog 19 #[.pointer (some ⟨g, 0, none⟩)] w fun e w' => e = .returned (.tuple #[]) ∧ Below w.heap.size w w' := by
  have hg := hp.lt
  have hc0 := hp.c0
  have hc1 := hp.c1
  have hge : ¬ ((i : Int) < (l.length : Int)) := by omega
  generalize hL : l.length = L at *
  go_enter Tryd.func19, Tryd.ntmps19
  go_wp2
  go_quiet (fail)
  go_wp2
  go_end0
  exact ⟨rfl, pw_below_drewN' (Below.refl _ _) _⟩
theorem end_bad (hp : Pa w g A c l i ln cl) (h : i < l.length) :
    Calls Tryd.prog 19 #[.pointer (some ⟨g, 0, none⟩)] w fun e w' => e = .panicked [{ v := thrown (nowT l i ln cl), recovered := false }] ∧ Below w.heap.size w w' := by
  have hg := hp.lt
  have hc0 := hp.c0
  have hc1 := hp.c1
  have hlt : (i : Int) < (l.length : Int) := by omega
  generalize hL : l.length = L at hc0 hlt
  go_enter Tryd.func19, Tryd.ntmps19
  go_wp2
  go_quiet (fail)
  have hB := Hd.mk (pw_below_drewN' (Below.refl w.heap.size w) nq)
  go_wp2_with (first | (go_at_call 39; (with_reducible refine (wrong_any (hp.below hB.out)).mono ?_); rintro e w1 ⟨rfl, hb⟩) | fail)
  exact ⟨rfl, rfl, hB.out.trans hb⟩
end
set_option maxRecDepth 100000 in
theorem begin_bad (s : ByteArray) (w : World) (hs : s.size ≤ 65536) (hK : Keys w) (lc : Int × Int) (h : (lexAll s).2 = some lc) :
    Calls Tryd.prog 17 #[.string s] w fun e w' => e = .panicked [{ v := thrownF (11, lc), recovered := false }] ∧ Below w.heap.size w w' := by
  have hA := all_any s w hs hK
  unfold FaultVal at hA
  rw [h] at hA
  simp only at hA
  go_enter Tryd.func17, Tryd.ntmps17
  go_wp2_with (first | (go_at_call 35; (with_reducible refine hA.mono ?_); rintro e w1 ⟨v, rfl, hO, hB⟩; have HB := Hd.mk hB; clear hO hB) | fail)
  exact ⟨rfl, rfl, below_one HB.out _⟩
theorem tks_new {w : World} {base g : Nat} {v : Value} {l : List Lx.Tk} (h : w.ownsRow base 99 5 v l.length (Lx.tksCells l)) (hg : w.heap.size ≤ g) :
    ∃ A c, v = .slice A l.length c ∧ l.length ≤ c ∧ TksAt w g A l := by
  rcases h.2 with ⟨rfl, hn⟩ | ⟨b, cap, cur, rfl, hb, hh, r⟩
  · have h0 : l = [] := List.eq_nil_of_length_eq_zero hn
    subst h0
    exact ⟨none, 0, rfl, Nat.le_refl _, ⟨fun j t ht => by simp at ht⟩⟩
  · refine ⟨_, cap, rfl, ?_, ⟨fun j t ht => ⟨b, rfl, by have := heap_lt' hh; omega, heap_lt' hh, fun i u hu => ?_⟩⟩⟩
    · exact r.1
    · have hj : j < l.length := (List.getElem?_eq_some_iff.1 ht).1
      have hi : i < 5 := (List.getElem?_eq_some_iff.1 hu).1
      rw [World.ownsRow.cellAt h _ (by omega), tks_drop l j t i u ht hu]
theorem two_new (w : World) (o : Obj) (cs : Array Value) (t : TypeId) : ((w.alloc o).alloc (.cells cs t)).heap[w.heap.size + 1]? = some (.cells cs t (0, 0)) := by
  have h1 : (w.alloc o).heap.size = w.heap.size + 1 := by show (w.heap.push _).size = _; simp
  rw [← h1]
  exact (NewB.alloc (w.alloc o) cs t).1
theorem two_size (w : World) (o o2 : Obj) : ((w.alloc o).alloc o2).heap.size = w.heap.size + 2 := by show ((w.heap.push _).push _).size = _; simp
theorem cells4 {W : World} {b : Nat} {t : TypeId} {v0 v1 v2 v3 : Value} (h : W.heap[b]? = some (.cells #[v0, v1, v2, v3] t (0, 0))) :
    (W.cell? ⟨b, 0, none⟩ = some v0 ∧ W.cell? ⟨b, 1, none⟩ = some v1 ∧ W.cell? ⟨b, 2, none⟩ = some v2 ∧ W.cell? ⟨b, 3, none⟩ = some v3) ∧ (∀ j, W.frozen? ⟨b, j, none⟩ = false) := by
  refine ⟨⟨?_, ?_, ?_, ?_⟩, fun j => ?_⟩ <;> simp [World.cell?, World.frozen?, h]
def endOf (s : ByteArray) : Int × Int := adv s 0 (1, 1) s.size
set_option maxRecDepth 100000 in
theorem begin_ok (s : ByteArray) (w : World) (hs : s.size ≤ 65536) (hK : Keys w) (h : (lexAll s).2 = none) :
    Calls Tryd.prog 17 #[.string s] w fun e w' => ∃ g A c, e = .returned (.pointer (some ⟨g, 0, none⟩)) ∧ w.heap.size ≤ g ∧ Below w.heap.size w w' ∧ Pa w' g A c (lexAll s).1 0 (endOf s).1 (endOf s).2 := by
  have hA := all_any s w hs hK
  unfold FaultVal at hA
  have hsz := Q.toks_size s (by omega)
  have ht : toks (lexAll s) = (lexAll s).1 := by unfold toks; rw [h]
  rw [h] at hA
  rw [ht] at hA hsz
  simp only at hA
  have hl : (lexAll s).1.length ≤ 65536 := by omega
  have htx : ∀ t, t ∈ (lexAll s).1 → t.text.size ≤ 65536 := fun t hm => by
    have : t.text.size ≤ Q.textSum (lexAll s).1 := by
      unfold Q.textSum
      generalize (lexAll s).1 = m at hm
      clear hsz hl hA ht h
      induction m with
      | nil => cases hm
      | cons y m ih =>
        simp only [List.map_cons, List.sum_cons]
        rcases List.mem_cons.1 hm with rfl | hm
        · omega
        · have := ih hm; omega
    omega
  generalize (lexAll s).1 = m at hA hl htx
  clear hsz ht h hK
  have hL : ∀ W : World, Calls Tryd.prog 36 #[.string s, .int .i64 s.size] W fun e w' => e = .returned (.tuple #[.int .i64 (endOf s).1, .int .i64 (endOf s).2]) ∧ Below W.heap.size W w' := fun W => by
    have := line_any s s.size W (by omega)
    rw [show clampI s (s.size : Int) = s.size from by unfold clampI; omega] at this
    exact this
  have HL := Hd.mk hL
  have HT := Hd.mk htx
  clear hL htx
  go_enter Tryd.func17, Tryd.ntmps17
  go_wp2_with (first
    | (go_at_call 35; (with_reducible refine hA.mono ?_); rintro e w1 ⟨v, rfl, hO, hB⟩; have HB := Hd.mk hB; obtain ⟨A, c, rfl, hlc, hT0⟩ := tks_new (g := w1.heap.size + 1) hO (Nat.le_succ _); have HT0 := Hd.mk hT0; clear hO hB hT0)
    | (go_at_call 36; (with_reducible refine (HL.out _).mono ?_); rintro e w2 ⟨rfl, hb⟩; have HB2 := Hd.mk hb; have hN := (hb.block (w1.heap.size + 1) (by rw [two_size]; omega)).trans (two_new w1 _ _ _); obtain ⟨⟨q0, q1, q2, q3⟩, hfz⟩ := cells4 hN; have f2 := hfz 2; have f3 := hfz 3; have hlt2 := heap_lt' hN; have HN := Hd.mk hN; clear hb hfz hN)
    | fail)
  go_ret
  have h3 := below_alloc (Below.refl w1.heap.size w1) (.cells #[.int .i64 0, .int .i64 0, .int .i64 0] 29)
  have h4 : Below w1.heap.size w1 w2 := (h3.alloc h3.size _).trans (HB2.out.mono (by rw [two_size]; omega))
  have h5 := below_set (j := 3) (v := .int .i64 (endOf s).2) (below_set (j := 2) (v := .int .i64 (endOf s).1) h4 (Nat.le_succ w1.heap.size)) (Nat.le_succ w1.heap.size)
  refine ⟨w1.heap.size + 1, A, c, rfl, Nat.le_trans HB.out.size (Nat.le_succ _), HB.out.trans (h5.mono HB.out.size), ⟨blk_put (blk_put HN.out 2 _ rfl) 3 _ rfl, ?_, hl, Nat.zero_le _, HT.out⟩⟩
  exact HT0.out.step (grown_of_below h5 _)
end Go.Proofs.YtnjnadlgndjnbaaDoor.Pk
