/- The closures of AstNamed: a call and an index of what was captured. -/
import Derived.Test.YtgkhpecllhiidaaDoorZAg
import Derived.Test.YtgkhpecllhiidaaDoorZBx1
import Derived.Test.YtgkhpecllhiidaaDoorZAo
import Derived.Test.YtgkhpecllhiidaaDoorZBx3
set_option linter.unusedVariables false
set_option linter.unusedSimpArgs false
namespace Go.Proofs.YtgkhpecllhiidaaDoor.A
open Go.RowKit Go.Shelf Go.Proofs.YtgkhpecllhiidaaDoor.As Go.Proofs.YtgkhpecllhiidaaDoorW.PrintWords Go.Proofs.YtgkhpecllhiidaaDoorW.PrintLast Go.Proofs.YtgkhpecllhiidaaDoorW.PrintMore
theorem heap_kept {w w' : World} {B : Nat} {o : Obj} (hb : Below w.heap.size w w') (h : w.heap[B]? = some o) : w'.heap[B]? = some o := (hb.block B (Array.getElem?_eq_some_iff.1 h).1).trans h
end Go.Proofs.YtgkhpecllhiidaaDoor.A
namespace Go.Proofs.YtgkhpecllhiidaaDoor.A
open Go.RowKit Go.Shelf Go.Proofs.YtgkhpecllhiidaaDoor.As Go.Proofs.YtgkhpecllhiidaaDoorW.PrintWords Go.Proofs.YtgkhpecllhiidaaDoorW.PrintLast Go.Proofs.YtgkhpecllhiidaaDoorW.PrintMore
theorem le_up {α : Type} {F : Nat → Option α} (h : ∀ k, LeO (F k) (F (k + 1))) {k k' : Nat} (hk : k ≤ k') {r : α} (e : F k = some r) : F k' = some r := by
  induction hk with
  | refl => exact e
  | step _ ih => exact h _ _ ih
theorem w64i (n : Int) (h : -9223372036854775808 ≤ n ∧ n < 9223372036854775808) : wrap64 n = n := by unfold wrap64; omega
mutual
def namesE : SE → List ByteArray
  | ⟨_, _, _, _, s, l⟩ => (if s.toList = ([] : List UInt8) then [] else [s]) ++ namesEs l
def namesEs : List SE → List ByteArray
  | [] => []
  | e :: l => namesE e ++ namesEs l
end
theorem sizeE_pos (e : SE) : 1 ≤ sizeE e := by obtain ⟨_, _, _, _, _, l⟩ := e; rw [sizeE]; omega
mutual
theorem namesE_len : ∀ e : SE, (namesE e).length ≤ sizeE e
  | ⟨_, _, _, _, s, l⟩ => by
    rw [namesE, sizeE, List.length_append]
    have := namesEs_len l
    split <;> simp <;> omega
theorem namesEs_len : ∀ l : List SE, (namesEs l).length ≤ sizeEs l
  | [] => by simp [namesEs, sizeEs]
  | e :: l => by
    rw [namesEs, sizeEs, List.length_append]
    have := namesE_len e
    have := namesEs_len l
    omega
end
mutual
theorem deep_le_E : ∀ e : SE, deepE e ≤ sizeE e
  | ⟨_, _, _, _, s, l⟩ => by rw [deepE, sizeE]; have := deep_le_Es l; omega
theorem deep_le_Es : ∀ l : List SE, deepEs l ≤ sizeEs l
  | [] => by simp [deepEs, sizeEs]
  | e :: l => by rw [deepEs, sizeEs]; have := deep_le_E e; have := deep_le_Es l; omega
end
theorem size_mem_E {l : List SE} {e : SE} (h : e ∈ l) : sizeE e ≤ sizeEs l := by
  induction l with
  | nil => cases h
  | cons x l ih =>
    rw [sizeEs]
    rcases List.mem_cons.1 h with rfl | h
    · omega
    · have := ih h; omega
theorem rd_nat (l : List SE) (i : Nat) (h : i < l.length) : rd_T25 l (i : Int) = l[i] := by
  unfold rd_T25; rw [Int.toNat_natCast, List.getD_eq_getElem?_getD, List.getElem?_eq_getElem h]; rfl
theorem names_up {e : SE} {k k' : Nat} (h : k ≤ k') {r : List ByteArray} (hf : ast_Names.f k e.f0 e.f1 e.f2 e.f3 e.f4 e.f5 = some r) : ast_Names.f k' e.f0 e.f1 e.f2 e.f3 e.f4 e.f5 = some r :=
  le_up (F := fun k => ast_Names.f k e.f0 e.f1 e.f2 e.f3 e.f4 e.f5) (fun k => ast_Names.mono _ _ _ _ _ _ k) h hf
theorem names_loop (D : Nat) (ih : ∀ e : SE, deepE e ≤ D → sizeE e < 1099511627776 → ∃ k, ast_Names.f k e.f0 e.f1 e.f2 e.f3 e.f4 e.f5 = some (namesE e)) (l : List SE) (hD : deepEs l ≤ D) (hs : sizeEs l < 1099511627776) :
    ∀ (n i : Nat) (x : List ByteArray), l.length - i ≤ n → i ≤ l.length → x.length + sizeEs (l.drop i) < 2199023255552 → ∃ k, ast_Names.l0 k x l (l.length : Int) (i : Int) = some (x ++ namesEs (l.drop i)) := by
  intro n
  induction n with
  | zero =>
    intro i x hn hi hx
    obtain rfl : i = l.length := by omega
    exact ⟨1, by rw [ast_Names.l0, if_neg (by omega), List.drop_length, namesEs, List.append_nil]⟩
  | succ n hn =>
    intro i x hni hi hx
    by_cases hlt : i < l.length
    · have hm : l[i] ∈ l := List.getElem_mem hlt
      obtain ⟨ka, ha⟩ := ih l[i] (Nat.le_trans (deep_mem_E hm) hD) (by have := size_mem_E hm; omega)
      rw [List.drop_eq_getElem_cons hlt, sizeEs] at hx
      have hnl := namesE_len l[i]
      obtain ⟨kb, hb⟩ := hn (i + 1) (x ++ namesE l[i]) (by omega) hlt (by rw [List.length_append]; omega)
      refine ⟨max ka kb + 1, ?_⟩
      have hil : l.length ≤ sizeEs l := by
        clear hb ha hm hlt hx hni hi hn hD ih hs hnl
        induction l with
        | nil => simp
        | cons e l h => rw [sizeEs, List.length_cons]; have := sizeE_pos e; omega
      rw [ast_Names.l0, if_pos (by omega), if_pos (by omega), if_pos (by omega), rd_nat l i hlt, names_up (Nat.le_max_left ka kb) ha, Option.bind_some, if_pos (by omega), w64i _ (by omega)]
      have := le_up (F := fun k => ast_Names.l0 k (x ++ namesE l[i]) l (l.length : Int) ((i + 1 : Nat) : Int)) (fun k => (ast_Names.mono_l k).2.2 _ _ _ _) (Nat.le_max_right ka kb) hb
      rw [show (i : Int) + 1 = ((i + 1 : Nat) : Int) by omega, this, List.drop_eq_getElem_cons hlt, namesEs, List.append_assoc]
    · obtain rfl : i = l.length := by omega
      exact ⟨1, by rw [ast_Names.l0, if_neg (by omega), List.drop_length, namesEs, List.append_nil]⟩
theorem names_f : ∀ (D : Nat) (e : SE), deepE e ≤ D → sizeE e < 1099511627776 → ∃ k, ast_Names.f k e.f0 e.f1 e.f2 e.f3 e.f4 e.f5 = some (namesE e)
  | 0, ⟨_, _, _, _, _, l⟩, h, _ => by rw [deepE] at h; omega
  | D + 1, ⟨f0, f1, f2, f3, s, l⟩, h, hs => by
    rw [deepE] at h
    rw [sizeE] at hs
    obtain ⟨k, hk⟩ := names_loop D (names_f D) l (by omega) (by omega) l.length 0 (if s.toList = ([] : List UInt8) then [] else [s]) (by omega) (by omega) (by rw [List.drop_zero]; split <;> simp <;> omega)
    refine ⟨k + 2, ?_⟩
    show ast_Names.f (k + 1 + 1) f0 f1 f2 f3 s l = _
    rw [ast_Names.f, namesE]
    rw [List.drop_zero] at hk
    by_cases h0 : s.toList = ([] : List UInt8)
    · rw [if_pos h0, if_pos h0, ast_Names.j0]
      rw [if_pos h0] at hk
      exact hk
    · rw [if_neg h0, if_neg h0, if_pos (by simp), ast_Names.j0]
      rw [if_neg h0] at hk
      exact hk
theorem light_up {l : List SE} {a : Int} {k k' : Nat} (h : k ≤ k') {r : Int} (hf : lamplighterkit_light.f k l a = some r) : lamplighterkit_light.f k' l a = some r :=
  le_up (F := fun k => lamplighterkit_light.f k l a) (fun k => lamplighterkit_light.mono _ _ k) h hf
theorem light_loop (D : Nat) (ih : ∀ (l : List SE) (left : Int), deepEs l ≤ D → (∀ e ∈ l, AllN szN (.ex e)) → -1125899906842624 ≤ left → left ≤ 1125899906842624 → ∃ k r, lamplighterkit_light.f k l left = some r ∧ r ≤ left ∧ -1125899906842624 ≤ r ∧ (0 ≤ r → r + sizeEs l ≤ left))
    (l : List SE) (hD : deepEs l ≤ D + 1) (hP : ∀ e ∈ l, AllN szN (.ex e)) :
    ∀ (n i : Nat) (left : Int), l.length - i ≤ n → i ≤ l.length → -1125899906842624 ≤ left → left + i ≤ 1125899906842624 → ∃ k r, lamplighterkit_light.l0 k l left (i : Int) = some r ∧ r ≤ left ∧ -1125899906842624 ≤ r ∧ (0 ≤ r → r + sizeEs (l.drop i) ≤ left) := by
  intro n
  induction n with
  | zero =>
    intro i left hn hi h1 h2
    obtain rfl : i = l.length := by omega
    exact ⟨1, left, by rw [lamplighterkit_light.l0, if_neg (by omega)], Int.le_refl _, h1, by rw [List.drop_length, sizeEs]; omega⟩
  | succ n hn =>
    intro i left hni hi h1 h2
    by_cases hlt : i < l.length
    · by_cases h0 : left ≥ 0
      · have hm : l[i] ∈ l := List.getElem_mem hlt
        have hd := deep_mem_E hm
        have hA := hP l[i] hm
        have hz : l[i].f4.size ≤ 140737488351232 := hA.own
        have hkid : ∀ e ∈ l[i].f5, AllN szN (.ex e) := fun e he => hA.kid (y := .ex e) (List.mem_map.2 ⟨e, he, rfl⟩)
        have hde : deepEs l[i].f5 ≤ D := by
          have : deepE l[i] = 1 + deepEs l[i].f5 := by obtain ⟨_, _, _, _, _, q⟩ := l[i]; rw [deepE]
          omega
        have hse : sizeE l[i] = 1 + sizeEs l[i].f5 := by obtain ⟨_, _, _, _, _, q⟩ := l[i]; rw [sizeE]
        have hrd := rd_nat l i hlt
        have hdr := List.drop_eq_getElem_cons hlt
        generalize l[i] = x at *
        obtain ⟨ka, ra, ha, ra1, ra2, ra3⟩ := ih x.f5 (left - 1 - (x.f4.size : Int) / 20) hde hkid (by omega) (by omega)
        obtain ⟨kb, rb, hb, rb1, rb2, rb3⟩ := hn (i + 1) ra (by omega) hlt ra2 (by omega)
        refine ⟨max ka kb + 1, rb, ?_, by omega, rb2, fun h => ?_⟩
        · rw [lamplighterkit_light.l0, if_pos (by omega), if_pos h0, if_pos (by omega), hrd, w64i (left - 1) (by omega), w64i ((x.f4.size : Int) / 20) (by omega), w64i (left - 1 - (x.f4.size : Int) / 20) (by omega), light_up (Nat.le_max_left ka kb) ha, Option.bind_some, w64i ((i : Int) + 1) (by omega)]
          have := le_up (F := fun k => lamplighterkit_light.l0 k l ra ((i + 1 : Nat) : Int)) (fun k => (lamplighterkit_light.mono_l k).2 _ _ _) (Nat.le_max_right ka kb) hb
          rw [show (i : Int) + 1 = ((i + 1 : Nat) : Int) by omega]
          exact this
        · have q1 := rb3 h
          have q2 := ra3 (by omega)
          rw [hdr, sizeEs]
          omega
      · exact ⟨1, left, by rw [lamplighterkit_light.l0, if_pos (by omega), if_neg h0], Int.le_refl _, h1, by omega⟩
    · obtain rfl : i = l.length := by omega
      exact ⟨1, left, by rw [lamplighterkit_light.l0, if_neg (by omega)], Int.le_refl _, h1, by rw [List.drop_length, sizeEs]; omega⟩
theorem light_f : ∀ (D : Nat) (l : List SE) (left : Int), deepEs l ≤ D → (∀ e ∈ l, AllN szN (.ex e)) → -1125899906842624 ≤ left → left ≤ 1125899906842624 → ∃ k r, lamplighterkit_light.f k l left = some r ∧ r ≤ left ∧ -1125899906842624 ≤ r ∧ (0 ≤ r → r + sizeEs l ≤ left)
  | 0, l, left, hD, _, h1, h2 => by
    cases l with
    | nil => exact ⟨2, left, by rw [lamplighterkit_light.f, lamplighterkit_light.l0, if_neg (by simp)], Int.le_refl _, h1, by rw [sizeEs]; omega⟩
    | cons e l => rw [deepEs] at hD; obtain ⟨_, _, _, _, _, q⟩ := e; rw [deepE] at hD; omega
  | D + 1, l, left, hD, hP, h1, h2 => by
    obtain ⟨k, r, hk, q1, q2, q3⟩ := light_loop D (light_f D) l hD hP l.length 0 left (by omega) (by omega) h1 (by omega)
    rw [List.drop_zero] at q3
    exact ⟨k + 1, r, by rw [lamplighterkit_light.f]; exact hk, q1, q2, q3⟩
theorem lightExpr_f (e : SE) (hP : AllN szN (.ex e)) : ∃ k b, lamplighterkit_LightExpr.f k e.f0 e.f1 e.f2 e.f3 e.f4 e.f5 300 = some b ∧ (b = true → sizeE e ≤ 300) := by
  obtain ⟨k, r, hk, _, _, h⟩ := light_f (deepEs [e]) [e] 300 (Nat.le_refl _) (fun x hx => by rw [List.mem_singleton.1 hx]; exact hP) (by omega) (by omega)
  refine ⟨k, decide (r ≥ 0), ?_, fun hb => ?_⟩
  · unfold lamplighterkit_LightExpr.f
    rw [show (⟨e.f0, e.f1, e.f2, e.f3, e.f4, e.f5⟩ : SE) = e by cases e; rfl, hk]
    rfl
  · have := h (by simpa using hb)
    have h1 : sizeEs [e] = sizeE e := by rw [sizeEs, sizeEs]; rfl
    have : (0 : Int) ≤ r := by simpa using hb
    omega
theorem texts_loop (l : List ByteArray) (hl : l.length < 4611686018427387904) : ∀ (n i : Nat), l.length - i ≤ n → i ≤ l.length → lamplighterkit_Texts.l0 (n + 1) l l (i : Int) = some true := by
  intro n
  induction n with
  | zero => intro i hn hi; obtain rfl : i = l.length := by omega
            rw [lamplighterkit_Texts.l0, if_neg (by omega)]
  | succ n ih =>
    intro i hn hi
    by_cases hlt : i < l.length
    · rw [lamplighterkit_Texts.l0, if_pos (by omega), if_pos (by omega), if_pos (by omega), if_pos rfl, w64i _ (by omega), show (i : Int) + 1 = ((i + 1 : Nat) : Int) by omega]
      exact ih (i + 1) (by omega) hlt
    · obtain rfl : i = l.length := by omega
      rw [lamplighterkit_Texts.l0, if_neg (by omega)]
theorem texts_self (l : List ByteArray) (hl : l.length < 4611686018427387904) : lamplighterkit_Texts.f (l.length + 1) l l = some true := by
  unfold lamplighterkit_Texts.f
  rw [if_pos rfl]
  exact texts_loop l hl l.length 0 (by omega) (by omega)
end Go.Proofs.YtgkhpecllhiidaaDoor.A
namespace Go.Proofs.YtgkhpecllhiidaaDoor.A
open Go.RowKit Go.Shelf Go.Proofs.YtgkhpecllhiidaaDoor.As Go.Proofs.YtgkhpecllhiidaaDoorW.PrintWords Go.Proofs.YtgkhpecllhiidaaDoorW.PrintLast Go.Proofs.YtgkhpecllhiidaaDoorW.PrintMore
set_option maxRecDepth 100000 in
theorem lives_20 : lamplighterlaw06_lives.f 20 = some true := by kernel_rfl
theorem lives_any (W : World) (hG : Keys W) : Calls Tryd.prog 14 #[] W fun e W' => e = .returned (.bool true) ∧ Below W.heap.size W W' := lamplighterlaw06_lives.calls 20 true W hG (Aside0.mk rfl) lives_20
open Kd (Heap heap_int heap_string heap_slice heap_pair heap_iso heap_fix)
theorem heapE : Heap kE := heap_fix (fun d hd => heap_iso _ (heap_pair (heap_int _) (heap_pair (heap_int _) (heap_pair (heap_int _) (heap_pair (heap_int _) (heap_pair heap_string (heap_slice _ hd)))))))
theorem VE {W : World} {A : Option Addr} {c : Nat} {l : List SE} (hl : l.length ≤ c) (hC : kE.C W A l.length l) : Kd.V kE 25 W W.heap.size (fun k => k < W.heap.size) (.slice A l.length c) l := Kd.V_mk hl (Kd.C_F heapE hC)
theorem light_calls (e : SE) (k : Nat) (b : Bool) (h : lamplighterkit_LightExpr.f k e.f0 e.f1 e.f2 e.f3 e.f4 e.f5 300 = some b) (A : Option Addr) (c : Nat) (W : World) (hl : e.f5.length ≤ c) (hC : kE.C W A e.f5.length e.f5) :
    Calls Tryd.prog 15 #[.agg #[.int .i64 e.f0, .int .i64 e.f1, .int .i64 e.f2, .int .u32 e.f3, .string e.f4, .slice A e.f5.length c], .int .i64 300] W fun r W' => r = .returned (.bool b) ∧ Below W.heap.size W W' :=
  lamplighterkit_LightExpr.calls k e.f0 e.f1 e.f2 e.f3 e.f4 _ A c e.f5 300 b W (VE hl hC) h
theorem names_calls (e : SE) (hs : sizeE e < 1099511627776) (A : Option Addr) (c : Nat) (W : World) (hl : e.f5.length ≤ c) (hC : kE.C W A e.f5.length e.f5) :
    Calls Tryd.prog 18 #[.agg #[.int .i64 e.f0, .int .i64 e.f1, .int .i64 e.f2, .int .u32 e.f3, .string e.f4, .slice A e.f5.length c]] W fun r W' => ∃ v, r = .returned v ∧ Kd.string.R 9 W' W.heap.size (fun _ => True) v (namesE e) ∧ Below W.heap.size W W' := by
  obtain ⟨k, hk⟩ := names_f (deepE e) e (Nat.le_refl _) hs
  exact ast_Names.calls k e.f0 e.f1 e.f2 e.f3 e.f4 A c e.f5 (namesE e) W hC hl hk
theorem texts_calls (l : List ByteArray) (hs : l.length < 4611686018427387904) (A B : Option Addr) (c d : Nat) (W : World) (hc : l.length ≤ c) (hd : l.length ≤ d) (h1 : Kd.string.C W A l.length l) (h2 : Kd.string.C W B l.length l) :
    Calls Tryd.prog 21 #[.slice A l.length c, .slice B l.length d] W fun r W' => r = .returned (.bool true) ∧ Below W.heap.size W W' :=
  (lamplighterkit_Texts.calls (l.length + 1) A c l B d l true W h1 hc h2 hd (texts_self l hs)).mono fun r W' h => ⟨h.1, by have := h.2; first | exact this | exact this.below⟩
theorem check_calls (e : SE) (hf : fitB (.ex e) = true) (A : Option Addr) (c : Nat) (W : World) (hG : Keys W) (hl : e.f5.length ≤ c) (hC : kE.C W A e.f5.length e.f5) :
    Calls Tryd.prog 16 #[.agg #[.int .i64 e.f0, .int .i64 e.f1, .int .i64 e.f2, .int .u32 e.f3, .string e.f4, .slice A e.f5.length c]] W fun r W' => r = .returned (.int .i64 (checkN [.ex e])) ∧ Below W.heap.size W W' :=
  checkExpr_any e A c W hG hC hl (fit_parts hf).1 (fit_parts hf).2.1 (fit_parts hf).2.2
def CellsE (W : World) (B : Nat) (x : SE) (A : Option Addr) (c : Nat) : Prop := (W.cell? ⟨B, 0, none⟩ = some (.int .i64 x.f0) ∧ W.cell? ⟨B, 1, none⟩ = some (.int .i64 x.f1) ∧ W.cell? ⟨B, 2, none⟩ = some (.int .i64 x.f2) ∧ W.cell? ⟨B, 3, none⟩ = some (.int .u32 x.f3) ∧ W.cell? ⟨B, 4, none⟩ = some (.string x.f4) ∧ W.cell? ⟨B, 5, none⟩ = some (.slice A x.f5.length c))
theorem cells_of {W : World} {B : Nat} {x : SE} {A : Option Addr} {c : Nat} (h : W.heap[B]? = some (.cells #[.int .i64 x.f0, .int .i64 x.f1, .int .i64 x.f2, .int .u32 x.f3, .string x.f4, .slice A x.f5.length c] 25 (0, 0))) : ∀ W', Below W.heap.size W W' → CellsE W' B x A c := fun W' hb => by
  have h' := heap_kept hb h
  refine ⟨?_, ?_, ?_, ?_, ?_, ?_⟩ <;> (unfold World.cell?; rw [h']; rfl)
end Go.Proofs.YtgkhpecllhiidaaDoor.A
