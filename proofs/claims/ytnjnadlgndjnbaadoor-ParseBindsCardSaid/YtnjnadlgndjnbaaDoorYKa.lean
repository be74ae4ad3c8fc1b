/- Parse: rows of read elements in a new block; tokens in memory. -/
import Derived.Test.YtnjnadlgndjnbaaDoorYAx0
import Derived.Test.YtnjnadlgndjnbaaDoorYHc
set_option linter.unusedVariables false
set_option linter.unusedSimpArgs false
namespace Go.Proofs.YtnjnadlgndjnbaaDoor.Pk
open Go.RowKit Go.Proofs.YtnjnadlgndjnbaaDoorW.PrintWords Go.Proofs.YtnjnadlgndjnbaaDoorW.PrintLast Go.Proofs.YtnjnadlgndjnbaaDoorW.PrintMore Go.Proofs.YtnjnadlgndjnbaaDoor.A
theorem heap_lt' {W : World} {b : Nat} {o : Obj} (hb : W.heap[b]? = some o) : b < W.heap.size := (Array.getElem?_eq_some_iff.1 hb).1
theorem R_rowN {α : Type} {d : Kd α} {W : World} {base e : Nat} {ok okp : Nat → Prop} {xs : List α} {inner : List Value} (hr : Reps (d.M W base okp) d.sz xs inner) (hok : ∀ k, okp k → ok k) (hn : ok W.heap.size) (hb : base ≤ W.heap.size) (hm : xs.length ≤ 9223372036854775807) :
    d.R e (W.alloc (.cells inner.toArray e)) base ok (.slice (some ⟨W.heap.size, 0, none⟩) xs.length xs.length) xs := by
  refine ⟨fun k hk => ?_, inner, ?_, ?_⟩
  · have : W.heap.size = k := by simpa [Value.ownBlock] using hk
    subst this
    exact hn
  · have h2 := World.ownsRow_lit (base := base) (e := e) (size := d.sz) W inner.toArray xs.length hb (by simpa [maxLen] using hm) (by simpa using hr.1)
    simpa using h2
  · refine hr.imp_ (fun p c hp => d.M_mono (fun k hk => ⟨hok k hk.1, fun he => ?_⟩) (Kd.M_below (d.M_bound hp) (below_alloc (Below.refl _ _) _)))
    have h3 : k = W.heap.size := by simpa [Value.ownBlock] using he
    have := hk.2.2.1
    omega
theorem R_row1 {α : Type} {d : Kd α} {W : World} {base e : Nat} {ok : Nat → Prop} {x : α} {cx : List Value} (hx : d.M W base ok x cx) (hn : ok W.heap.size) (hb : base ≤ W.heap.size) :
    d.R e (W.alloc (.cells cx.toArray e)) base ok (.slice (some ⟨W.heap.size, 0, none⟩) 1 1) [x] := by
  have h := Reps.snoc (Reps.none (d.M W base ok) d.sz) hx (d.K_len (d.K_of_M hx))
  exact R_rowN (xs := [x]) (inner := cx) (by simpa using h) (fun _ h => h) hn hb (by simp)
theorem R_row2 {α : Type} {d : Kd α} {W : World} {base e : Nat} {ok : Nat → Prop} {x y : α} {cx cy : List Value} (hx : d.M W base ok x cx) (hy : d.M W base ok y cy) (hn : ok W.heap.size) (hb : base ≤ W.heap.size) :
    d.R e (W.alloc (.cells (cx ++ cy).toArray e)) base ok (.slice (some ⟨W.heap.size, 0, none⟩) 2 2) [x, y] := by
  have h := Reps.snoc (Reps.snoc (Reps.none (d.M W base ok) d.sz) hx (d.K_len (d.K_of_M hx))) hy (d.K_len (d.K_of_M hy))
  exact R_rowN (xs := [x, y]) (inner := cx ++ cy) (by simpa using h) (fun _ h => h) hn hb (by simp)
def NewB (w W : World) (b : Nat) (t : TypeId) (cs : Array Value) : Prop := W.heap[b]? = some (.cells cs t (0, 0)) ∧ Below w.heap.size w W ∧ w.heap.size ≤ b
theorem NewB.alloc (w : World) (cs : Array Value) (t : TypeId) : NewB w (w.alloc (.cells cs t)) w.heap.size t cs :=
  ⟨by show (w.heap.push _)[w.heap.size]? = _; simp, below_alloc (Below.refl _ _) _, Nat.le_refl _⟩
theorem NewB.drewN {w W : World} {b : Nat} {t : TypeId} {cs : Array Value} (h : NewB w W b t cs) (n : Nat) : NewB w (W.drewN n) b t cs := ⟨h.1, pw_below_drewN h.2.1 n, h.2.2⟩
theorem NewB.drew {w W : World} {b : Nat} {t : TypeId} {cs : Array Value} (h : NewB w W b t cs) : NewB w W.drew b t cs := ⟨h.1, below_drew h.2.1, h.2.2⟩
theorem NewB.put {w W : World} {b : Nat} {t : TypeId} {cs : Array Value} (h : NewB w W b t cs) (i : Nat) (u : Value) {cs' : Array Value} (e : cs.setIfInBounds i u = cs') : NewB w (W.setCell ⟨b, i, none⟩ u) b t cs' :=
  ⟨blk_put h.1 i u e, below_set h.2.1 h.2.2, h.2.2⟩
theorem NewB.cell {w W : World} {b : Nat} {t : TypeId} {cs : Array Value} (h : NewB w W b t cs) (i : Nat) : W.cell? ⟨b, i, none⟩ = cs[i]? := by simp [World.cell?, h.1]
theorem NewB.frozen {w W : World} {b : Nat} {t : TypeId} {cs : Array Value} (h : NewB w W b t cs) (i : Nat) : W.frozen? ⟨b, i, none⟩ = false := by simp [World.frozen?, h.1]
structure TksAt (w : World) (g : Nat) (A : Option Addr) (l : List Lx.Tk) : Prop where
  at_ : ∀ j t, l[j]? = some t → ∃ b, A = some ⟨b, 0, none⟩ ∧ b ≠ g ∧ b < w.heap.size ∧ ∀ i v, (Lx.tkCells t)[i]? = some v → w.cell? ⟨b, j * 5 + i, none⟩ = some v
theorem TksAt.step {w w' : World} {g : Nat} {A : Option Addr} {l : List Lx.Tk} (h : TksAt w g A l) (hg : w.grownBy w' (some g)) : TksAt w' g A l := by
  refine ⟨fun j t ht => ?_⟩
  obtain ⟨b, hA, hne, hlt, hc⟩ := h.at_ j t ht
  have hbk := hg.block b hlt (fun e => hne (Option.some.inj e))
  refine ⟨b, hA, hne, Nat.lt_of_lt_of_le hlt hg.size, fun i v hv => ?_⟩
  rw [← hc i v hv]
  exact World.cell?_of_block hbk
theorem tks_drop (l : List Lx.Tk) : ∀ (j : Nat) (t : Lx.Tk) (i : Nat) (v : Value), l[j]? = some t → (Lx.tkCells t)[i]? = some v → (Lx.tksCells l)[j * 5 + i]? = some v := by
  induction l with
  | nil => intro j t i v h; simp at h
  | cons x l ih =>
    intro j t i v h hv
    have he : Lx.tksCells (x :: l) = Lx.tkCells x ++ Lx.tksCells l := rfl
    have h5 : (Lx.tkCells x).length = 5 := rfl
    rw [he]
    cases j with
    | zero =>
      have h' : x = t := by simpa using h
      subst h'
      rw [Nat.zero_mul, Nat.zero_add, List.getElem?_append_left (List.getElem?_eq_some_iff.1 hv).1, hv]
    | succ j =>
      rw [List.getElem?_append_right (by omega), h5]
      have := ih j t i v (by simpa using h) hv
      rw [← this]; congr 1; omega
end Go.Proofs.YtnjnadlgndjnbaaDoor.Pk
