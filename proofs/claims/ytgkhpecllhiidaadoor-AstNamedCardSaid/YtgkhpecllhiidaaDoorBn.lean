/- The laws of chapter 6: the examples hold; what the functions answer in any later world; the words of AstNamed and its plain law. -/
import Derived.Test.YtgkhpecllhiidaaDoorBa
import Derived.Test.YtgkhpecllhiidaaDoorBx3
import Derived.Test.YtgkhpecllhiidaaDoorBb
set_option linter.unusedVariables false
set_option linter.unusedSimpArgs false
namespace Go.Proofs.YtgkhpecllhiidaaDoor.A
open Go.RowKit Go.Shelf Go.Proofs.YtgkhpecllhiidaaDoor.As Go.Proofs.YtgkhpecllhiidaaDoorW.PrintWords Go.Proofs.YtgkhpecllhiidaaDoorW.PrintLast Go.Proofs.YtgkhpecllhiidaaDoorW.PrintMore
set_option maxRecDepth 100000 in
theorem lives_20 : lamplighterlaw06_lives.f 20 = some true := by kernel_rfl
theorem lives_any (W : World) (hG : Keys W) : Calls Tryd.prog 14 #[] W fun e W' => e = .returned (.bool true) ∧ Below W.heap.size W W' := lamplighterlaw06_lives.calls 20 true W hG lives_20

open Kd (Heap heap_int heap_string heap_slice heap_pair heap_iso heap_fix)
theorem heapE : Heap kE := heap_fix (fun d hd => heap_iso _ (heap_pair (heap_int _) (heap_pair (heap_int _) (heap_pair (heap_int _) (heap_pair (heap_int _) (heap_pair heap_string (heap_slice _ hd)))))))
theorem VE {W : World} {A : Option Addr} {c : Nat} {l : List SE} (hl : l.length ≤ c) (hC : kE.C W A l.length l) : Kd.V kE 25 W W.heap.size (fun k => k < W.heap.size) (.slice A l.length c) l := Kd.V_mk hl (Kd.C_F heapE hC)
theorem light_calls (e : SE) (k : Nat) (b : Bool) (h : lamplighterkit_LightExpr.f k e.f0 e.f1 e.f2 e.f3 e.f4 e.f5 300 = some b) (A : Option Addr) (c : Nat) (W : World) (hl : e.f5.length ≤ c) (hC : kE.C W A e.f5.length e.f5) :
    Calls Tryd.prog 15 #[.agg #[.int .i64 e.f0, .int .i64 e.f1, .int .i64 e.f2, .int .u32 e.f3, .string e.f4, .slice A e.f5.length c], .int .i64 300] W fun r W' => r = .returned (.bool b) ∧ Below W.heap.size W W' :=
  lamplighterkit_LightExpr.calls k e.f0 e.f1 e.f2 e.f3 e.f4 _ A c e.f5 300 b W (VE hl hC) h
theorem names_calls (e : SE) (hs : sizeE e < 1099511627776) (A : Option Addr) (c : Nat) (W : World) (hl : e.f5.length ≤ c) (hC : kE.C W A e.f5.length e.f5) :
    Calls Tryd.prog 18 #[.agg #[.int .i64 e.f0, .int .i64 e.f1, .int .i64 e.f2, .int .u32 e.f3, .string e.f4, .slice A e.f5.length c]] W fun r W' => ∃ v, r = .returned v ∧ Kd.string.R 9 W' W.heap.size (fun _ => True) v (namesE e) ∧ Below W.heap.size W W' := by
  obtain ⟨k, hk⟩ := names_f (deepE e) e (Nat.le_refl _) hs
  exact ast_Names.calls k e.f0 e.f1 e.f2 e.f3 e.f4 A c e.f5 (namesE e) W hC hl hk
theorem texts_calls (l : List ByteArray) (hs : l.length < 4611686018427387904) (A B : Option Addr) (c d : Nat) (W : World) (hc : l.length ≤ c) (hd : l.length ≤ d) (h1 : Kd.string.C W A l.length l) (h2 : Kd.string.C W B l.length l) :
    Calls Tryd.prog 21 #[.slice A l.length c, .slice B l.length d] W fun r W' => r = .returned (.bool true) ∧ Below W.heap.size W W' :=
  (lamplighterkit_Texts.calls (l.length + 1) A c l B d l true W h1 hc h2 hd (texts_self l hs)).mono fun r W' h => ⟨h.1, by have := h.2; first | exact this | exact this.below⟩
theorem check_calls (e : SE) (hf : fitB (.ex e) = true) (A : Option Addr) (c : Nat) (W : World) (hG : Keys W) (hl : e.f5.length ≤ c) (hC : kE.C W A e.f5.length e.f5) :
    Calls Tryd.prog 16 #[.agg #[.int .i64 e.f0, .int .i64 e.f1, .int .i64 e.f2, .int .u32 e.f3, .string e.f4, .slice A e.f5.length c]] W fun r W' => r = .returned (.int .i64 (checkN [.ex e])) ∧ Below W.heap.size W W' :=
  checkExpr_any e A c W hG hC hl (fit_parts hf).1 (fit_parts hf).2.1 (fit_parts hf).2.2
theorem pick_calls (a m r : Int) (W : World) (h : lamplighterkit_Pick.f a m = some r) : Calls Tryd.prog 17 #[.int .i64 a, .int .i64 m] W fun e W' => e = .returned (.int .i64 r) ∧ Below W.heap.size W W' :=
  (lamplighterkit_Pick.calls a m r W h).mono fun e W' h => ⟨h.1, by have := h.2; first | exact this | exact this.below⟩
theorem pick_quiet (a m r : Int) (W : World) (h : lamplighterkit_Pick.f a m = some r) : Calls Tryd.prog 17 #[.int .i64 a, .int .i64 m] W fun e W' => e = .returned (.int .i64 r) ∧ ∃ n, W' = W.drewN n :=
  (lamplighterkit_Pick.calls a m r W h).mono fun e W' k => ⟨k.1, k.2.out⟩
theorem namesE_call (k : Int) (g : ByteArray) (hg : ¬ g.toList = ([] : List UInt8)) (l : List SE) : namesE ⟨k, 0, 0, 0, g, l⟩ = [g] ++ namesEs l := by rw [namesE, if_neg hg]
theorem namesTwo_calls (k : Int) (g : ByteArray) (hg : ¬ g.toList = ([] : List UInt8)) (x y : SE) (hx : sizeE x < 549755813887) (hy : sizeE y < 549755813887) (A : Option Addr) (W : World) (hC : kE.C W A 2 [x, y]) :
    Calls Tryd.prog 18 #[.agg #[.int .i64 k, .int .i64 0, .int .i64 0, .int .u32 0, .string g, .slice A 2 2]] W fun r W' => ∃ v, r = .returned v ∧ Kd.string.R 9 W' W.heap.size (fun _ => True) v ([g] ++ (namesE x ++ namesE y)) ∧ Below W.heap.size W W' := by
  have h := names_calls ⟨k, 0, 0, 0, g, [x, y]⟩ (by rw [sizeE, sizeEs, sizeEs, sizeEs]; omega) A 2 W (Nat.le_refl _) hC
  rw [namesE_call k g hg, namesEs, namesEs, namesEs, List.append_nil] at h
  exact h
theorem namesOne_calls (k : Int) (g : ByteArray) (hg : ¬ g.toList = ([] : List UInt8)) (x : SE) (hx : sizeE x < 549755813887) (A : Option Addr) (W : World) (hC : kE.C W A 1 [x]) :
    Calls Tryd.prog 18 #[.agg #[.int .i64 k, .int .i64 0, .int .i64 0, .int .u32 0, .string g, .slice A 1 1]] W fun r W' => ∃ v, r = .returned v ∧ Kd.string.R 9 W' W.heap.size (fun _ => True) v ([g] ++ namesE x) ∧ Below W.heap.size W W' := by
  have h := names_calls ⟨k, 0, 0, 0, g, [x]⟩ (by rw [sizeE, sizeEs, sizeEs]; omega) A 1 W (Nat.le_refl _) hC
  rw [namesE_call k g hg, namesEs, namesEs, List.append_nil] at h
  exact h
/-- A row of texts that has just been laid down. -/
theorem R_litW {W : World} {base : Nat} (hbase : base ≤ W.heap.size) (xs : List ByteArray) (hm : xs.length ≤ 4611686018427387904) : Kd.string.R 9 (W.alloc (.cells (xs.map Value.string).toArray 9)) base (fun _ => True) (.slice (some ⟨W.heap.size, 0, none⟩) xs.length xs.length) xs := by
  refine ⟨fun _ _ => trivial, xs.map Value.string, ?_, ?_, ?_⟩
  · have h2 := World.ownsRow_lit (base := base) (e := 9) (size := 1) W (xs.map Value.string).toArray xs.length hbase (by unfold maxLen; omega) (by simp)
    have h3 : (W.alloc (.cells (xs.map Value.string).toArray 9)).ownsRow base 9 1 (.slice (some ⟨W.heap.size, 0, none⟩) xs.length xs.length) xs.length (xs.map Value.string) := by simpa using h2
    exact h3
  · show (xs.map Value.string).length = xs.length * 1
    simp
  · intro j p hj
    show ((xs.map Value.string).drop (j * 1)).take 1 = [Value.string p]
    have hlt := (List.getElem?_eq_some_iff.1 hj).1
    have hjj := (List.getElem?_eq_some_iff.1 hj).2
    rw [Nat.mul_one, List.drop_eq_getElem_cons (by simpa using hlt), List.take_succ_cons, List.take_zero, List.getElem_map, hjj]


/-- An expression's cells in a box, with the row of its parts. -/
def CellsE (W : World) (B : Nat) (x : SE) (A : Option Addr) (c : Nat) : Prop := (W.cell? ⟨B, 0, none⟩ = some (.int .i64 x.f0) ∧ W.cell? ⟨B, 1, none⟩ = some (.int .i64 x.f1) ∧ W.cell? ⟨B, 2, none⟩ = some (.int .i64 x.f2) ∧ W.cell? ⟨B, 3, none⟩ = some (.int .u32 x.f3) ∧ W.cell? ⟨B, 4, none⟩ = some (.string x.f4) ∧ W.cell? ⟨B, 5, none⟩ = some (.slice A x.f5.length c))
theorem cells_of {W : World} {B : Nat} {x : SE} {A : Option Addr} {c : Nat} (h : W.heap[B]? = some (.cells #[.int .i64 x.f0, .int .i64 x.f1, .int .i64 x.f2, .int .u32 x.f3, .string x.f4, .slice A x.f5.length c] 25 (0, 0))) : ∀ W', Below W.heap.size W W' → CellsE W' B x A c := fun W' hb => by
  have h' := heap_kept hb h
  refine ⟨?_, ?_, ?_, ?_, ?_, ?_⟩ <;> (unfold World.cell?; rw [h']; rfl)
/-- The two rows of words. -/
def goods : List ByteArray := [⟨#[97]⟩, ⟨#[95]⟩, ⟨#[120, 57]⟩, ⟨#[119, 104, 105, 108, 101, 115]⟩, ⟨#[117, 56, 56]⟩, ⟨#[122, 122, 95, 48]⟩]
def bads : List ByteArray := [⟨#[]⟩, ⟨#[105, 102]⟩, ⟨#[117, 56]⟩, ⟨#[65]⟩, ⟨#[57]⟩, ⟨#[97, 32, 98]⟩, ⟨#[120, 45]⟩, ⟨#[109, 97, 105, 110]⟩]
theorem good_at (i : Nat) (h : i < 6) : (#[.string ⟨#[97]⟩, .string ⟨#[95]⟩, .string ⟨#[120, 57]⟩, .string ⟨#[119, 104, 105, 108, 101, 115]⟩, .string ⟨#[117, 56, 56]⟩, .string ⟨#[122, 122, 95, 48]⟩] : Array Value)[i]? = some (.string (goods.getD i ByteArray.empty)) := by
  have : i = 0 ∨ i = 1 ∨ i = 2 ∨ i = 3 ∨ i = 4 ∨ i = 5 := by omega
  rcases this with rfl | rfl | rfl | rfl | rfl | rfl <;> rfl
theorem bad_at (i : Nat) (h : i < 8) : (#[.string ⟨#[]⟩, .string ⟨#[105, 102]⟩, .string ⟨#[117, 56]⟩, .string ⟨#[65]⟩, .string ⟨#[57]⟩, .string ⟨#[97, 32, 98]⟩, .string ⟨#[120, 45]⟩, .string ⟨#[109, 97, 105, 110]⟩] : Array Value)[i]? = some (.string (bads.getD i ByteArray.empty)) := by
  have : i = 0 ∨ i = 1 ∨ i = 2 ∨ i = 3 ∨ i = 4 ∨ i = 5 ∨ i = 6 ∨ i = 7 := by omega
  rcases this with rfl | rfl | rfl | rfl | rfl | rfl | rfl | rfl <;> rfl
theorem pick_of (a : Int) (m : Nat) (h : 0 < m) (hm : m < 1000) : ∃ i : Nat, i < m ∧ lamplighterkit_Pick.f a m = some (i : Int) := by
  have h1 : (Int.tmod a m) < m := by
    have := Int.tmod_lt_of_pos a (b := (m : Int)) (by omega); exact this
  have h2 : -(m : Int) < Int.tmod a m := by
    have := Int.lt_tmod_of_pos a (b := (m : Int)) (by omega); omega
  unfold lamplighterkit_Pick.f
  rw [if_neg (by omega), if_neg (by omega)]
  by_cases h0 : Int.tmod a m < 0
  · rw [if_pos h0, w64i _ (by omega)]
    exact ⟨(Int.tmod a m + m).toNat, by omega, by rw [Int.toNat_of_nonneg (by omega)]⟩
  · rw [if_neg h0]
    exact ⟨(Int.tmod a m).toNat, by omega, by rw [Int.toNat_of_nonneg (by omega)]⟩


theorem goods_all : (goods.all fun g => nameB g && decide (g.size ≤ 10) && !(g.toList == ([] : List UInt8))) = true := by kernel_rfl
theorem bads_all : (bads.all fun b => !nameB b && decide (b.size ≤ 10)) = true := by kernel_rfl
theorem goods_of {g : ByteArray} (h : g ∈ goods) : nameB g = true ∧ g.size ≤ 10 ∧ ¬ g.toList = ([] : List UInt8) := by
  have := List.all_eq_true.1 goods_all g h
  simp only [Bool.and_eq_true, Bool.not_eq_true', beq_eq_false_iff_ne, ne_eq, decide_eq_true_eq] at this
  exact ⟨this.1.1, this.1.2, this.2⟩
theorem bads_of {b : ByteArray} (h : b ∈ bads) : nameB b = false ∧ b.size ≤ 10 := by
  have := List.all_eq_true.1 bads_all b h
  simp only [Bool.and_eq_true, Bool.not_eq_true', decide_eq_true_eq] at this
  exact this
def atomS (l : List ByteArray) : SS := ⟨10, 0, 0, 0, ⟨#[]⟩, l, [], [], [], []⟩
theorem atom_good : (goods.all fun g => (checkN [.st (atomS [g])] == 0) && fitB (.st (atomS [g]))) = true := by kernel_rfl
theorem atom_bad : (goods.all fun g => bads.all fun b => (checkN [.st (atomS [g, b])] == 2) && fitB (.st (atomS [g, b]))) = true := by kernel_rfl
theorem atom_one {g : ByteArray} (h : g ∈ goods) : checkN [.st (atomS [g])] = 0 ∧ fitB (.st (atomS [g])) = true := by
  have := List.all_eq_true.1 atom_good g h
  simp only [Bool.and_eq_true, beq_iff_eq] at this
  exact this
theorem atom_two {g b : ByteArray} (h : g ∈ goods) (hb : b ∈ bads) : checkN [.st (atomS [g, b])] = 2 ∧ fitB (.st (atomS [g, b])) = true := by
  have := List.all_eq_true.1 (List.all_eq_true.1 atom_bad g h) b hb
  simp only [Bool.and_eq_true, beq_iff_eq] at this
  exact this
theorem check_val (x : Nd) : checkN [x] = if tooLong 0 [x] then 3 else if rightN x then 0 else 2 := by
  unfold checkN
  rw [List.all_cons, List.all_nil, Bool.and_true]
theorem right_of {x : Nd} (h : checkN [x] = 0) : rightN x = true := by
  rw [check_val] at h
  split at h
  · cases h
  · split at h
    · assumption
    · cases h
theorem check_good {x : Nd} (h : rightN x = true) : checkN [x] = 0 ∨ checkN [x] = 3 := by
  rw [check_val, if_pos h]
  split
  · exact .inr rfl
  · exact .inl rfl
theorem check_wrong {x : Nd} (h : rightN x = false) : checkN [x] ≠ 0 := by
  rw [check_val, h]
  cases tooLong 0 [x] <;> decide
theorem index_good (e : SE) (he : checkN [.ex e] = 0) {g : ByteArray} (h : g ∈ goods) : checkN [.ex ⟨3, 0, 0, 0, g, [e]⟩] = 0 ∨ checkN [.ex ⟨3, 0, 0, 0, g, [e]⟩] = 3 := by
  refine check_good ?_
  show rightE exprB ⟨3, 0, 0, 0, g, [e]⟩ = true
  rw [rightE, rightEs, rightEs, show rightE exprB e = true from right_of he, Bool.and_true, Bool.and_true]
  unfold exprB
  simp [(goods_of h).1, sameB]
theorem index_wrong (e : SE) {b : ByteArray} (h : b ∈ bads) : checkN [.ex ⟨3, 0, 0, 0, b, [e]⟩] ≠ 0 := by
  refine check_wrong ?_
  show rightE exprB ⟨3, 0, 0, 0, b, [e]⟩ = false
  rw [rightE]
  have : exprB ⟨3, 0, 0, 0, b, [e]⟩ = false := by unfold exprB; simp [(bads_of h).1]
  rw [this]; rfl
theorem call_wrong (e f : SE) {b : ByteArray} (h : b ∈ bads) : checkN [.ex ⟨4, 0, 0, 0, b, [e, f]⟩] ≠ 0 := by
  refine check_wrong ?_
  show rightE exprB ⟨4, 0, 0, 0, b, [e, f]⟩ = false
  rw [rightE]
  have : exprB ⟨4, 0, 0, 0, b, [e, f]⟩ = false := by unfold exprB; simp [(bads_of h).1]
  rw [this]; rfl
theorem fit_index (k : Int) (e : SE) (hs : sizeE e ≤ 300) (he : AllN szN (.ex e)) {g : ByteArray} (h : g.size ≤ 10) : fitB (.ex ⟨k, 0, 0, 0, g, [e]⟩) = true := by
  refine fit_of ?_ ?_ (.mk _ (show g.size ≤ 140737488351232 by omega) fun y hy => ?_)
  · show sizeE _ < _
    rw [sizeE, sizeEs, sizeEs]; omega
  · show deepE _ < _
    have := deep_le_E e
    rw [deepE, deepEs, deepEs]; omega
  · obtain ⟨z, hz, rfl⟩ := List.mem_map.1 hy
    obtain rfl := List.mem_singleton.1 hz
    exact he
theorem fit_call (k : Int) (e f : SE) (hs : sizeE e ≤ 300) (hs2 : sizeE f ≤ 300) (he : AllN szN (.ex e)) (hf : AllN szN (.ex f)) {g : ByteArray} (h : g.size ≤ 10) : fitB (.ex ⟨k, 0, 0, 0, g, [e, f]⟩) = true := by
  refine fit_of ?_ ?_ (.mk _ (show g.size ≤ 140737488351232 by omega) fun y hy => ?_)
  · show sizeE _ < _
    rw [sizeE, sizeEs, sizeEs, sizeEs]; omega
  · show deepE _ < _
    have := deep_le_E e
    have := deep_le_E f
    rw [deepE, deepEs, deepEs, deepEs]; omega
  · obtain ⟨z, hz, rfl⟩ := List.mem_map.1 hy
    rcases List.mem_cons.1 hz with rfl | hz
    · exact he
    · obtain rfl := List.mem_singleton.1 hz
      exact hf
theorem good_mem {i : Nat} (h : i < 6) : goods.getD i ByteArray.empty ∈ goods := by
  rw [List.getD_eq_getElem?_getD, List.getElem?_eq_getElem (by simpa [goods] using h)]
  exact List.getElem_mem _
theorem bad_mem {i : Nat} (h : i < 8) : bads.getD i ByteArray.empty ∈ bads := by
  rw [List.getD_eq_getElem?_getD, List.getElem?_eq_getElem (by simpa [bads] using h)]
  exact List.getElem_mem _
/-- CheckStmt of an atomic statement whose names lie in a row. -/
theorem atom_calls (l : List ByteArray) (hf : fitB (.st (atomS l)) = true) (r : Int) (hr : checkN [.st (atomS l)] = r) (A : Option Addr) (W : World) (hG : Keys W) (hC : Kd.string.C W A l.length l) :
    Calls Tryd.prog 22 #[.agg #[.int .i64 10, .int .i64 0, .int .i64 0, .int .i64 0, .string ⟨#[]⟩, .slice A l.length l.length, .slice none 0 0, .slice none 0 0, .slice none 0 0, .slice none 0 0]] W fun e W' => e = .returned (.int .i64 r) ∧ Below W.heap.size W W' := by
  have h := checkStmt_any (atomS l) A none none none none l.length 0 0 0 0 W hG hC (Kd.C_nil kE W) (Kd.C_nil kE W) (Kd.C_nil kS W) (Kd.C_nil kS W) (Nat.le_refl _) (Nat.le_refl _) (Nat.le_refl _) (Nat.le_refl _) (Nat.le_refl _) (fit_parts hf).1 (fit_parts hf).2.1 (fit_parts hf).2.2
  rw [hr] at h
  exact h
end Go.Proofs.YtgkhpecllhiidaaDoor.A
