/- Rows for trees: what an argument that is an expression or a statement reads as. -/
import Derived.Test.YtgkhpecllhiidaaDoorAo
import Derived.ChangeArms
import Derived.SizedLaws
import Derived.Deep.Slices
set_option linter.unusedVariables false
set_option linter.unusedSimpArgs false
namespace Go.Proofs.YtgkhpecllhiidaaDoor.A
open Go.RowKit Go.Shelf Go.Proofs.YtgkhpecllhiidaaDoor.As Go.Proofs.YtgkhpecllhiidaaDoorW.PrintWords Go.Proofs.YtgkhpecllhiidaaDoorW.PrintLast Go.Proofs.YtgkhpecllhiidaaDoorW.PrintMore

section
variable {H : Type} {enc : TypeId × Value → H} {P : Program} {W : World} {sp : Nat → Bool} {held : Bool}
theorem weights_field {t : TypeId} {fs : Array Field} (ht : P.underlying t = some (.struct fs)) {parts : List (DataW H)} (h : ∀ n ∈ (DataW.agg parts).weights P t, n ≤ reachBytes) {i : Nat} {f : Field} {d : DataW H} (hf : fs[i]? = some f) (hd : parts[i]? = some d) : ∀ n ∈ d.weights P f.type, n ≤ reachBytes := by
  intro n hn
  refine h n ?_
  simp only [DataW.weights, ht]
  exact DataW.weights_mem_each (j := i) (by rw [List.getElem?_map, Array.getElem?_toList, hf]; rfl) hd n hn
theorem weights_mem_all {e : TypeId} {d : DataW H} : ∀ {ds : List (DataW H)}, d ∈ ds → ∀ n ∈ d.weights P e, n ∈ DataW.weightsAll P e ds
  | [], h, _, _ => by cases h
  | d0 :: ds, h, n, hn => by
    simp only [DataW.weightsAll, List.mem_append]
    rcases List.mem_cons.1 h with rfl | h
    · exact .inl hn
    · exact .inr (weights_mem_all h n hn)
theorem weights_elem {t e : TypeId} (ht : P.underlying t = some (.slice e)) {elems rest : List (DataW H)} (h : ∀ n ∈ (DataW.slice elems rest).weights P t, n ≤ reachBytes) {d : DataW H} (hd : d ∈ elems) : ∀ n ∈ d.weights P e, n ≤ reachBytes := by
  intro n hn
  refine h n ?_
  simp only [DataW.weights, ht, List.mem_cons, List.mem_append]
  exact .inr (.inl (weights_mem_all hd n hn))
/-- A slice, opened: its row, by what its elements are. -/
theorem row_open {α : Type} [Inhabited α] (k : Kd α) {t e : TypeId} (ht : P.underlying t = some (.slice e)) (hsz : P.cellsOf e = k.sz) (Q : α → Prop) {fuel : Nat} {cs : List Value} {x : DataW H × List MemPlace} (h : DataW.trod enc P W 0 sp held fuel t cs = some x)
    (hw : ∀ n ∈ x.1.weights P t, n ≤ reachBytes)
    (hH : ∀ n cs' y, n < fuel → DataW.trod enc P W 0 sp held n e cs' = some y → (∀ m ∈ y.1.weights P e, m ≤ reachBytes) → ∃ a, k.K W a cs' ∧ Q a) :
    ∃ (A : Option Addr) (c : Nat) (l : List α), cs = [.slice A l.length c] ∧ l.length ≤ c ∧ k.C W A l.length l ∧ (∀ a ∈ l, Q a) ∧ l.length * P.bytesOf e ≤ reachBytes := by
  rcases DataW.trod_slice ht h with ⟨rfl, rfl⟩ | ⟨a, len, cap, elems, rest, n, rfl, rfl, rfl, hb, hl, hm, hlen, hel, _, _⟩
  · exact ⟨none, 0, [], rfl, Nat.le_refl _, Kd.C_nil k W, (fun _ h => by cases h), by simp⟩
  · have key : ∀ i, i < len → ∃ z : α × List Value, W.cells? 0 (a.add (i * k.sz)) k.sz = some z.2 ∧ k.K W z.1 z.2 ∧ Q z.1 := by
      intro i hi
      have h0 := hel i hi
      rw [List.getElem?_eq_getElem (by omega)] at h0
      obtain ⟨cs', h1, h2⟩ := Option.bind_eq_some_iff.1 h0
      obtain ⟨z, hk, hq⟩ := hH n cs' _ (Nat.lt_succ_self _) h2 (weights_elem ht hw (List.mem_map.2 ⟨_, List.getElem_mem _, rfl⟩))
      rw [hsz] at h1
      exact ⟨(z, cs'), h1, hk, hq⟩
    obtain ⟨f, hf⟩ := Go.Deep.choose_lt key
    refine ⟨some a, cap, (List.range len).map fun i => (f i).1, by simp, by simpa using hl, ⟨rfl, ?_, fun _ => ⟨a, rfl, fun j p hj => ?_⟩⟩, ?_, ?_⟩
    · have : maxLen ≤ 9223372036854775807 := by decide
      rw [List.length_map, List.length_range]; omega
    · have hjl : j < len := by
        have := (List.getElem?_eq_some_iff.1 hj).1
        simpa using this
      rw [List.getElem?_map, List.getElem?_range hjl] at hj
      obtain rfl := Option.some.inj hj
      obtain ⟨h1, h2, _⟩ := hf j hjl
      obtain ⟨_, hl2, hc⟩ := World.cells?_some h1
      refine ⟨(f j).2, hl2, h2, fun i u hi => ?_⟩
      have hi' : i < k.sz := by have := (List.getElem?_eq_some_iff.1 hi).1; omega
      have := hc i hi'
      rw [hi, Go.Deep.add_add] at this
      exact this
    · intro z hz
      obtain ⟨i, hi, rfl⟩ := List.mem_map.1 hz
      exact (hf i (List.mem_range.1 hi)).2.2
    · have := hw (((elems.map (·.1)).length + (rest.map (·.1)).length) * P.bytesOf e) (by simp only [DataW.weights, ht]; exact List.mem_cons_self ..)
      rw [List.length_map, List.length_map, hlen] at this
      rw [List.length_map, List.length_range]
      exact Nat.le_trans (Nat.mul_le_mul_right _ (Nat.le_add_right _ _)) this
theorem int_open {t : TypeId} {k : IntKind} (ht : P.underlying t = some (.int k)) {fuel : Nat} {cs : List Value} {x : DataW H × List MemPlace} (h : DataW.trod enc P W 0 sp held fuel t cs = some x) : ∃ n, cs = [.int k n] := by
  obtain ⟨n, h1, _, _⟩ := DataW.trod_int ht h
  exact ⟨n, h1⟩
theorem text_open {t : TypeId} (ht : P.underlying t = some .string) {fuel : Nat} {cs : List Value} {x : DataW H × List MemPlace} (h : DataW.trod enc P W 0 sp held fuel t cs = some x) (hw : ∀ n ∈ x.1.weights P t, n ≤ reachBytes) : ∃ s : ByteArray, cs = [.string s] ∧ s.size ≤ 140737488351232 := by
  obtain ⟨s, h1, rfl, _⟩ := DataW.trod_string ht h
  refine ⟨s, h1, ?_⟩
  have := hw s.data.toList.length (by simp [DataW.weights])
  rw [Array.length_toList] at this
  exact this
theorem text_K {W : World} (s : ByteArray) : Kd.string.K W s [.string s] := by first | rfl | exact ⟨rfl⟩ | (show _ = _; rfl)
end

section
variable {H : Type} {enc : TypeId × Value → H} {W : World} {sp : Nat → Bool} {held : Bool}
/-- No statement has more names than memory reaches. -/
def lenN : Nd → Prop
  | .ex _ => True
  | .st s => s.f5.length ≤ 140737488351232
mutual
theorem lenN_E : ∀ e : SE, AllN lenN (.ex e)
  | ⟨a, b, c, d, s, l⟩ => .mk _ trivial (fun y hy => by obtain ⟨z, hz, rfl⟩ := List.mem_map.1 hy; exact lenN_Es l z hz)
theorem lenN_Es : ∀ l : List SE, ∀ z ∈ l, AllN lenN (.ex z)
  | [], z, hz => by cases hz
  | e :: l, z, hz => by
    rcases List.mem_cons.1 hz with hz | hz
    · rw [hz]; exact lenN_E e
    · exact lenN_Es l z hz
end
theorem cB : Tryd.prog.bytesOf 9 = 16 := by kernel_rfl
theorem cE : Tryd.prog.cellsOf 25 = 6 := by kernel_rfl
theorem cS : Tryd.prog.cellsOf 38 = 10 := by kernel_rfl
theorem cI : Tryd.prog.cellsOf 3 = 1 := by kernel_rfl
theorem cT : Tryd.prog.cellsOf 9 = 1 := by kernel_rfl
theorem cU : Tryd.prog.cellsOf 22 = 1 := by kernel_rfl
theorem cLE : Tryd.prog.cellsOf 23 = 1 := by kernel_rfl
theorem cLS : Tryd.prog.cellsOf 36 = 1 := by kernel_rfl
theorem cLT : Tryd.prog.cellsOf 30 = 1 := by kernel_rfl
instance : Inhabited SE := ⟨⟨0, 0, 0, 0, ByteArray.empty, []⟩⟩
instance : Inhabited SS := ⟨⟨0, 0, 0, 0, ByteArray.empty, [], [], [], [], []⟩⟩
set_option maxRecDepth 100000 in
/-- An expression that is read. -/
theorem ex_open : ∀ (fuel : Nat) (cs : List Value) (x : DataW H × List MemPlace), DataW.trod enc Tryd.prog W 0 sp held fuel 25 cs = some x → (∀ n ∈ x.1.weights Tryd.prog 25, n ≤ reachBytes) →
    ∃ (e : SE) (A : Option Addr) (c : Nat), cs = [.int .i64 e.f0, .int .i64 e.f1, .int .i64 e.f2, .int .u32 e.f3, .string e.f4, .slice A e.f5.length c] ∧ e.f5.length ≤ c ∧ kE.C W A e.f5.length e.f5 ∧ AllN szN (.ex e) := by
  intro fuel
  induction fuel using Nat.strongRecOn with
  | ind fuel ih =>
    intro cs x h hw
    obtain ⟨xs, m, rfl, rfl, hlen, hxl, hf⟩ := DataW.trod_struct Tryd.underlying25 h
    rw [cE] at hlen
    match cs, hlen with
    | [c0, c1, c2, c3, c4, c5], _ =>
      match xs, hxl with
      | [x0, x1, x2, x3, x4, x5], _ =>
        have f0 : DataW.trod enc Tryd.prog W 0 sp held m 3 (List.take (Tryd.prog.cellsOf 3) (List.drop 0 [c0, c1, c2, c3, c4, c5])) = some x0 := hf 0 _ rfl
        rw [cI] at f0
        have f1 : DataW.trod enc Tryd.prog W 0 sp held m 3 (List.take (Tryd.prog.cellsOf 3) (List.drop 1 [c0, c1, c2, c3, c4, c5])) = some x1 := hf 1 _ rfl
        rw [cI] at f1
        have f2 : DataW.trod enc Tryd.prog W 0 sp held m 3 (List.take (Tryd.prog.cellsOf 3) (List.drop 2 [c0, c1, c2, c3, c4, c5])) = some x2 := hf 2 _ rfl
        rw [cI] at f2
        have f3 : DataW.trod enc Tryd.prog W 0 sp held m 22 (List.take (Tryd.prog.cellsOf 22) (List.drop 3 [c0, c1, c2, c3, c4, c5])) = some x3 := hf 3 _ rfl
        rw [cU] at f3
        have f4 : DataW.trod enc Tryd.prog W 0 sp held m 9 (List.take (Tryd.prog.cellsOf 9) (List.drop 4 [c0, c1, c2, c3, c4, c5])) = some x4 := hf 4 _ rfl
        rw [cT] at f4
        have f5 : DataW.trod enc Tryd.prog W 0 sp held m 23 (List.take (Tryd.prog.cellsOf 23) (List.drop 5 [c0, c1, c2, c3, c4, c5])) = some x5 := hf 5 _ rfl
        rw [cLE] at f5
        have w4 := weights_field Tryd.underlying25 hw (i := 4) (d := x4.1) rfl rfl
        have w5 := weights_field Tryd.underlying25 hw (i := 5) (d := x5.1) rfl rfl
        obtain ⟨a0, e0⟩ := int_open Tryd.underlying3 f0
        obtain ⟨a1, e1⟩ := int_open Tryd.underlying3 f1
        obtain ⟨a2, e2⟩ := int_open Tryd.underlying3 f2
        obtain ⟨a3, e3⟩ := int_open Tryd.underlying22 f3
        obtain ⟨a4, e4, s4⟩ := text_open Tryd.underlying9 f4 w4
        obtain ⟨A, c, l, e5, hl, hC, hQ, _⟩ := row_open kE Tryd.underlying23 cE (fun e => AllN szN (.ex e)) f5 w5 (fun n cs' y hn hy hv => by
          obtain ⟨e, A, c, rfl, hl, hC, hQ⟩ := ih n (by omega) cs' y hy hv
          exact ⟨e, k25_mk W e hl hC, hQ⟩)
        obtain rfl := (List.cons.inj e0).1
        obtain rfl := (List.cons.inj e1).1
        obtain rfl := (List.cons.inj e2).1
        obtain rfl := (List.cons.inj e3).1
        obtain rfl := (List.cons.inj e4).1
        obtain rfl := (List.cons.inj e5).1
        exact ⟨⟨a0, a1, a2, a3, a4, l⟩, A, c, rfl, hl, hC, .mk _ s4 (fun y hy => by
          obtain ⟨z, hz, rfl⟩ := List.mem_map.1 hy
          exact hQ z hz)⟩
set_option maxRecDepth 100000 in
/-- A statement that is read. -/
theorem st_open : ∀ (fuel : Nat) (cs : List Value) (x : DataW H × List MemPlace), DataW.trod enc Tryd.prog W 0 sp held fuel 38 cs = some x → (∀ n ∈ x.1.weights Tryd.prog 38, n ≤ reachBytes) →
    ∃ (s : SS) (A5 A6 A7 A8 A9 : Option Addr) (c5 c6 c7 c8 c9 : Nat), cs = [.int .i64 s.f0, .int .i64 s.f1, .int .i64 s.f2, .int .i64 s.f3, .string s.f4, .slice A5 s.f5.length c5, .slice A6 s.f6.length c6, .slice A7 s.f7.length c7, .slice A8 s.f8.length c8, .slice A9 s.f9.length c9] ∧
      (Kd.string.C W A5 s.f5.length s.f5 ∧ kE.C W A6 s.f6.length s.f6 ∧ kE.C W A7 s.f7.length s.f7 ∧ kS.C W A8 s.f8.length s.f8 ∧ kS.C W A9 s.f9.length s.f9) ∧
      (s.f5.length ≤ c5 ∧ s.f6.length ≤ c6 ∧ s.f7.length ≤ c7 ∧ s.f8.length ≤ c8 ∧ s.f9.length ≤ c9) ∧ AllN szN (.st s) ∧ AllN lenN (.st s) := by
  intro fuel
  induction fuel using Nat.strongRecOn with
  | ind fuel ih =>
    intro cs x h hw
    obtain ⟨xs, m, rfl, rfl, hlen, hxl, hf⟩ := DataW.trod_struct Tryd.underlying38 h
    rw [cS] at hlen
    match cs, hlen with
    | [c0, c1, c2, c3, c4, c5, c6, c7, c8, c9], _ =>
      match xs, hxl with
      | [x0, x1, x2, x3, x4, x5, x6, x7, x8, x9], _ =>
        have f0 : DataW.trod enc Tryd.prog W 0 sp held m 3 (List.take (Tryd.prog.cellsOf 3) (List.drop 0 [c0, c1, c2, c3, c4, c5, c6, c7, c8, c9])) = some x0 := hf 0 _ rfl
        rw [cI] at f0
        have f1 : DataW.trod enc Tryd.prog W 0 sp held m 3 (List.take (Tryd.prog.cellsOf 3) (List.drop 1 [c0, c1, c2, c3, c4, c5, c6, c7, c8, c9])) = some x1 := hf 1 _ rfl
        rw [cI] at f1
        have f2 : DataW.trod enc Tryd.prog W 0 sp held m 3 (List.take (Tryd.prog.cellsOf 3) (List.drop 2 [c0, c1, c2, c3, c4, c5, c6, c7, c8, c9])) = some x2 := hf 2 _ rfl
        rw [cI] at f2
        have f3 : DataW.trod enc Tryd.prog W 0 sp held m 3 (List.take (Tryd.prog.cellsOf 3) (List.drop 3 [c0, c1, c2, c3, c4, c5, c6, c7, c8, c9])) = some x3 := hf 3 _ rfl
        rw [cI] at f3
        have f4 : DataW.trod enc Tryd.prog W 0 sp held m 9 (List.take (Tryd.prog.cellsOf 9) (List.drop 4 [c0, c1, c2, c3, c4, c5, c6, c7, c8, c9])) = some x4 := hf 4 _ rfl
        rw [cT] at f4
        have f5 : DataW.trod enc Tryd.prog W 0 sp held m 30 (List.take (Tryd.prog.cellsOf 30) (List.drop 5 [c0, c1, c2, c3, c4, c5, c6, c7, c8, c9])) = some x5 := hf 5 _ rfl
        rw [cLT] at f5
        have f6 : DataW.trod enc Tryd.prog W 0 sp held m 23 (List.take (Tryd.prog.cellsOf 23) (List.drop 6 [c0, c1, c2, c3, c4, c5, c6, c7, c8, c9])) = some x6 := hf 6 _ rfl
        rw [cLE] at f6
        have f7 : DataW.trod enc Tryd.prog W 0 sp held m 23 (List.take (Tryd.prog.cellsOf 23) (List.drop 7 [c0, c1, c2, c3, c4, c5, c6, c7, c8, c9])) = some x7 := hf 7 _ rfl
        rw [cLE] at f7
        have f8 : DataW.trod enc Tryd.prog W 0 sp held m 36 (List.take (Tryd.prog.cellsOf 36) (List.drop 8 [c0, c1, c2, c3, c4, c5, c6, c7, c8, c9])) = some x8 := hf 8 _ rfl
        rw [cLS] at f8
        have f9 : DataW.trod enc Tryd.prog W 0 sp held m 36 (List.take (Tryd.prog.cellsOf 36) (List.drop 9 [c0, c1, c2, c3, c4, c5, c6, c7, c8, c9])) = some x9 := hf 9 _ rfl
        rw [cLS] at f9
        have w4 := weights_field Tryd.underlying38 hw (i := 4) (d := x4.1) rfl rfl
        have w5 := weights_field Tryd.underlying38 hw (i := 5) (d := x5.1) rfl rfl
        have w6 := weights_field Tryd.underlying38 hw (i := 6) (d := x6.1) rfl rfl
        have w7 := weights_field Tryd.underlying38 hw (i := 7) (d := x7.1) rfl rfl
        have w8 := weights_field Tryd.underlying38 hw (i := 8) (d := x8.1) rfl rfl
        have w9 := weights_field Tryd.underlying38 hw (i := 9) (d := x9.1) rfl rfl
        obtain ⟨a0, e0⟩ := int_open Tryd.underlying3 f0
        obtain ⟨a1, e1⟩ := int_open Tryd.underlying3 f1
        obtain ⟨a2, e2⟩ := int_open Tryd.underlying3 f2
        obtain ⟨a3, e3⟩ := int_open Tryd.underlying3 f3
        obtain ⟨a4, e4, s4⟩ := text_open Tryd.underlying9 f4 w4
        have hE : ∀ n cs' y, n < m → DataW.trod enc Tryd.prog W 0 sp held n 25 cs' = some y → (∀ q ∈ y.1.weights Tryd.prog 25, q ≤ reachBytes) → ∃ a, kE.K W a cs' ∧ AllN szN (.ex a) := fun n cs' y hn hy hv => by
          obtain ⟨e, A, c, rfl, hl, hC, hQ⟩ := ex_open n cs' y hy hv
          exact ⟨e, k25_mk W e hl hC, hQ⟩
        have hS : ∀ n cs' y, n < m → DataW.trod enc Tryd.prog W 0 sp held n 38 cs' = some y → (∀ q ∈ y.1.weights Tryd.prog 38, q ≤ reachBytes) → ∃ a, kS.K W a cs' ∧ (AllN szN (.st a) ∧ AllN lenN (.st a)) := fun n cs' y hn hy hv => by
          obtain ⟨s, A5, A6, A7, A8, A9, c5, c6, c7, c8, c9, rfl, ⟨h5, h6, h7, h8, h9⟩, ⟨l5, l6, l7, l8, l9⟩, hQ, hM⟩ := ih n (by omega) cs' y hy hv
          exact ⟨s, k38_mk W s l5 h5 l6 h6 l7 h7 l8 h8 l9 h9, hQ, hM⟩
        obtain ⟨A5, d5, l5, e5, hl5, hC5, hQ5, hw5⟩ := row_open Kd.string Tryd.underlying30 cT (fun s => s.size ≤ 140737488351232) f5 w5 (fun n cs' y hn hy hv => by
          obtain ⟨s, rfl, hs⟩ := text_open Tryd.underlying9 hy hv
          exact ⟨s, text_K s, hs⟩)
        obtain ⟨A6, d6, l6, e6, hl6, hC6, hQ6, hw6⟩ := row_open kE Tryd.underlying23 cE (fun e => AllN szN (.ex e)) f6 w6 hE
        obtain ⟨A7, d7, l7, e7, hl7, hC7, hQ7, hw7⟩ := row_open kE Tryd.underlying23 cE (fun e => AllN szN (.ex e)) f7 w7 hE
        obtain ⟨A8, d8, l8, e8, hl8, hC8, hQ8, hw8⟩ := row_open kS Tryd.underlying36 cS (fun e => AllN szN (.st e) ∧ AllN lenN (.st e)) f8 w8 hS
        obtain ⟨A9, d9, l9, e9, hl9, hC9, hQ9, hw9⟩ := row_open kS Tryd.underlying36 cS (fun e => AllN szN (.st e) ∧ AllN lenN (.st e)) f9 w9 hS
        obtain rfl := (List.cons.inj e0).1
        obtain rfl := (List.cons.inj e1).1
        obtain rfl := (List.cons.inj e2).1
        obtain rfl := (List.cons.inj e3).1
        obtain rfl := (List.cons.inj e4).1
        obtain rfl := (List.cons.inj e5).1
        obtain rfl := (List.cons.inj e6).1
        obtain rfl := (List.cons.inj e7).1
        obtain rfl := (List.cons.inj e8).1
        obtain rfl := (List.cons.inj e9).1
        exact ⟨⟨a0, a1, a2, a3, a4, l5, l6, l7, l8, l9⟩, A5, A6, A7, A8, A9, d5, d6, d7, d8, d9, rfl, ⟨hC5, hC6, hC7, hC8, hC9⟩, ⟨hl5, hl6, hl7, hl8, hl9⟩, .mk _ ⟨s4, hQ5⟩ (fun y hy => by
          unfold Nd.kids at hy
          simp only [List.mem_append, List.mem_map] at hy
          rcases hy with ((⟨z, hz, rfl⟩ | ⟨z, hz, rfl⟩) | ⟨z, hz, rfl⟩) | ⟨z, hz, rfl⟩
          · exact hQ6 z hz
          · exact hQ7 z hz
          · exact (hQ8 z hz).1
          · exact (hQ9 z hz).1), .mk _ (show l5.length ≤ 140737488351232 by rw [cB] at hw5; have : reachBytes = 140737488351232 := rfl; omega) (fun y hy => by
          unfold Nd.kids at hy
          simp only [List.mem_append, List.mem_map] at hy
          rcases hy with ((⟨z, hz, rfl⟩ | ⟨z, hz, rfl⟩) | ⟨z, hz, rfl⟩) | ⟨z, hz, rfl⟩
          · exact lenN_E z
          · exact lenN_E z
          · exact (hQ8 z hz).2
          · exact (hQ9 z hz).2)⟩
end
end Go.Proofs.YtgkhpecllhiidaaDoor.A
