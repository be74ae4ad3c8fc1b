/- Words of this seat's own texts: small facts on worlds, strings and bytes; the keyword map; the contracts of lex.letter, lex.digit, lex.Kind. -/
import Derived.Test.YtnjnadlgndjnbaaDoorProg
import Derived.WalkKit
import Derived.KernelRfl
import Derived.WalkSpells
import Derived.WalkLawsBesides
import Derived.Deep.QuietTactic
import Derived.BigQuiet
import Derived.Maps.AppendAt
set_option linter.unusedVariables false
set_option linter.unusedSimpArgs false
namespace Go.Proofs.YtnjnadlgndjnbaaDoor.Lx
open Go.RowKit
structure Hd (p : Prop) : Prop where mk :: (out : p)
theorem ret_int {k : IntKind} {a b : Int} (h : a = b) : Ending.returned (.int k a) = .returned (.int k b) := by rw [h]
theorem ret_bool {a b : Bool} (h : a = b) : Ending.returned (.bool a) = .returned (.bool b) := by rw [h]
theorem grown_set {w W : World} {g : Nat} (h : w.grownBy W (some g)) (j : Nat) (u : Value) : w.grownBy (W.setCell ⟨g, j, none⟩ u) (some g) :=
  ⟨h.os, h.tape, h.output, by simpa using h.size, fun k hk hne => (Below.heap_setCell W ⟨g, j, none⟩ u k (fun e => hne (by rw [e]))).trans (h.block k hk hne)⟩
theorem grown_alloc {w W : World} {r : Option Nat} (h : w.grownBy W r) (o : Obj) : w.grownBy (W.alloc o) r :=
  h.trans (World.grownBy_alloc W o r)
theorem grown_below {w W W' : World} {r : Option Nat} (h : w.grownBy W r) (hb : Below W.heap.size W W') : w.grownBy W' r :=
  h.trans ⟨hb.os, hb.tape, hb.output, hb.size, fun k hk _ => hb.block k hk⟩
theorem grown_drew {w W : World} {r : Option Nat} (h : w.grownBy W r) : w.grownBy W.drew r := ⟨h.os, h.tape, h.output, h.size, h.block⟩
theorem grown_drewN {w W : World} {r : Option Nat} (h : w.grownBy W r) (n : Nat) : w.grownBy (W.drewN n) r := ⟨h.os, h.tape, h.output, h.size, h.block⟩
theorem below_of_grown {w W : World} {g B : Nat} (h : w.grownBy W (some g)) (hB : B ≤ w.heap.size) (hg : B ≤ g) : Below B w W :=
  ⟨h.os, h.tape, h.output, h.size, fun k hk => h.block k (by omega) (by simp; omega)⟩
theorem below_trans {B : Nat} {w W W' : World} (h : Below B w W) (hB : B ≤ W.heap.size) (hb : Below W.heap.size W W') : Below B w W' :=
  h.trans (hb.mono hB)
def bt (s : ByteArray) (i : Nat) : Int := if h : i < s.size then (s[i].toNat : Int) else 0
theorem bt_eq (s : ByteArray) (i : Nat) (h : i < s.size) : (s[i].toNat : Int) = bt s i := by simp [bt, h]
theorem bt_range (s : ByteArray) (i : Nat) : 0 ≤ bt s i ∧ bt s i ≤ 255 := by
  unfold bt; split
  · rename_i h; have := (s[i]).toNat_lt; omega
  · omega
theorem blen (s : ByteArray) : s.toList.length = s.size := by rw [ByteArray.toList_eq]; simp
theorem nil_of (s : ByteArray) (h : s.size = 0) : s.toList = [] := by apply List.eq_nil_of_length_eq_zero; rw [blen, h]
theorem ne_nil (s : ByteArray) (h : 0 < s.size) : s.toList.isEmpty = false := by
  cases hb : s.toList.isEmpty
  · rfl
  · simp at hb
    have := blen s
    rw [hb] at this; simp at this; omega
theorem bt_extract (s : ByteArray) (i n k : Nat) (h : i + n ≤ s.size) (hk : k < n) : bt (s.extract i (i + n)) k = bt s (i + k) := by
  have h1 : k < (s.extract i (i + n)).size := by simp; omega
  have h2 : i + k < s.size := by omega
  simp only [bt, h1, h2, dif_pos]
  congr 1
  simp [ByteArray.getElem_extract]
def letB (c : Int) : Bool := (decide (97 ≤ c) && decide (c ≤ 122)) || c == 95
def digB (c : Int) : Bool := decide (48 ≤ c) && decide (c ≤ 57)
def keyList : List (List UInt8) := [[97, 116, 111, 109, 105, 99], [98, 111, 116, 104], [100, 105, 115, 97, 98, 108, 101], [101, 108, 115, 101], [101, 110, 97, 98, 108, 101], [102, 117, 110, 99], [105, 51, 50], [105, 102], [108, 101, 118, 101, 108], [109, 97, 105, 110], [111, 110], [112, 111, 114, 116], [112, 114, 105, 111], [114, 101, 97, 100], [114, 101, 116, 117, 114, 110], [115, 116, 97, 99, 107], [117, 49, 54], [117, 51, 50], [117, 56], [119, 104, 105, 108, 101], [119, 114, 105, 116, 101]]
def isKey (s : ByteArray) : Bool := keyList.contains s.data.toList
def Keys0 (w : World) : Prop := ∃ bm, bm < w.heap.size ∧ 0 < w.heap.size ∧ w.cell? ⟨3, 0, none⟩ = some (.map (some bm)) ∧ ∀ w' : World, w'.heap[bm]? = w.heap[bm]? → ∀ s : ByteArray, s.size ≤ 140737488351232 → (Instr.lookup 133 (.map (some bm)) (.string s) true).run Tryd.prog w' = .ok (.tuple #[.agg #[], .bool (isKey s)]) w'
def MaxL (w : World) : Prop := ∃ m : Int, w.cell? ⟨4, 0, none⟩ = some (.int .i64 m)
theorem MaxL.of_heap {w w' : World} (h : MaxL w) (hz : w.heap.size ≤ w'.heap.size) (hh : ∀ i, i < w.heap.size → w'.heap[i]? = w.heap[i]?) : MaxL w' := by
  obtain ⟨m, hm⟩ := h
  exact ⟨m, (World.cell?_of_block (a := ⟨4, 0, none⟩) (hh _ (World.block_lt_of_cell? w _ hm))).trans hm⟩
def Keys (w : World) : Prop := Keys0 w ∧ MaxL w
theorem Keys.of_heap {w w' : World} (h : Keys w) (hz : w.heap.size ≤ w'.heap.size) (hh : ∀ i, i < w.heap.size → w'.heap[i]? = w.heap[i]?) : Keys w' := by
  obtain ⟨⟨bm, hl, h0, hc, hk⟩, hm⟩ := h
  refine ⟨⟨bm, by omega, by omega, ?_, fun W hW => hk W (hW.trans (hh bm hl))⟩, hm.of_heap hz hh⟩
  have := World.block_lt_of_cell? w _ hc
  exact (World.cell?_of_block (a := ⟨3, 0, none⟩) (hh _ this)).trans hc
theorem Keys.below {w w' : World} (h : Keys w) (hb : Below w.heap.size w w') : Keys w' := h.of_heap hb.size hb.block
theorem Keys.drew {w : World} (h : Keys w) : Keys w.drew := h.of_heap (Nat.le_refl _) (fun _ _ => rfl)
theorem Keys.alloc {w : World} (h : Keys w) (o : Obj) : Keys (w.alloc o) := h.below ((Below.refl _ _).alloc (Nat.le_refl _) o)
theorem digit_any (c : Int) (w : World) :
    Calls Tryd.prog 69 #[.int .u8 c] w fun e w' => e = .returned (.bool (digB c)) ∧ w = w' := by
  by_cases a : 48 ≤ c
  all_goals
    go_enter Tryd.func69, Tryd.ntmps69
    go_wp2
    go_ret
    exact ⟨ret_bool (by simp [digB]; omega), rfl⟩
theorem letter_any (c : Int) (w : World) :
    Calls Tryd.prog 67 #[.int .u8 c] w fun e w' => e = .returned (.bool (letB c)) ∧ w = w' := by
  by_cases a : 97 ≤ c <;> by_cases b : c ≤ 122
  all_goals
    go_enter Tryd.func67, Tryd.ntmps67
    go_wp2
    all_goals
      go_ret
      exact ⟨ret_bool (by simp [letB]; omega), rfl⟩
def wcB (c : Int) : Bool := letB c || digB c
def allW (s : ByteArray) : Nat → Bool
  | 0 => true
  | k + 1 => allW s k && wcB (bt s k)
def kindOf (s : ByteArray) : Int := if s.size = 0 then 0 else if letB (bt s 0) = false then 0 else if allW s s.size = false then 0 else if isKey s then 2 else 1
theorem allW_le (s : ByteArray) : ∀ n k, k ≤ n → allW s n = true → allW s k = true := by
  intro n; induction n with
  | zero => intro k hk h; obtain rfl : k = 0 := by omega
            exact h
  | succ n ih =>
    intro k hk h
    rcases Nat.lt_or_ge k (n + 1) with hk' | hk'
    · simp [allW] at h; exact ih k (by omega) h.1
    · obtain rfl : k = n + 1 := by omega
      exact h
theorem kind_no (s : ByteArray) (k : Nat) (h : k < s.size) (hw : wcB (bt s k) = false) : kindOf s = 0 := by
  unfold kindOf
  have : allW s s.size = false := by
    cases h' : allW s s.size
    · rfl
    · have := allW_le s s.size (k + 1) (by omega) h'
      simp [allW, hw] at this
  rw [this]; simp
theorem kind_all (s : ByteArray) (h : 0 < s.size) (hl : letB (bt s 0) = true) (ha : allW s s.size = true) : kindOf s = if isKey s then 2 else 1 := by
  unfold kindOf
  rw [if_neg (by omega), if_neg (by simp [hl]), if_neg (by simp [ha])]
set_option maxRecDepth 100000 in
set_option maxHeartbeats 400000 in
theorem kind_any (s : ByteArray) (w : World) (hs : s.size ≤ 140737488351232) (hK : Keys w) :
    Calls Tryd.prog 62 #[.string s] w fun e w' => e = .returned (.int .i64 (kindOf s)) ∧ Below w.heap.size w w' := by
  obtain ⟨⟨bm, _, _, hc, hl⟩, _⟩ := hK
  have hlk := hl w rfl s hs
  clear hl
  rcases Nat.eq_zero_or_pos s.size with h0 | hpos
  · have h0' : s.toList = [] := nil_of s h0
    have hf : kindOf s = 0 := by simp [kindOf, h0]
    rw [hf]
    clear hf
    go_enter Tryd.func62, Tryd.ntmps62
    go_wp2
    go_ret
    exact ⟨rfl, Below.refl _ _⟩
  · have h0' := ne_nil s hpos
    have hb0 := bt_eq s 0 hpos
    cases hb : letB (s[0].toNat) with
    | false =>
      have hf : kindOf s = 0 := by rw [hb0] at hb; simp [kindOf, hb]
      rw [hf]
      clear hf hb0
      go_enter Tryd.func62, Tryd.ntmps62
      go_wp2_with (go_at_call 67; refine (letter_any _ _).mono ?_; rintro e w' ⟨rfl, rfl⟩)
      go_ret
      exact ⟨rfl, Below.refl _ _⟩
    | true =>
      have Hb := Hd.mk (hb0 ▸ hb)
      clear hb0
      go_enter Tryd.func62, Tryd.ntmps62
      go_wp2_with (go_at_call 67; refine (letter_any _ _).mono ?_; rintro e w' ⟨rfl, rfl⟩)
      clear hb
      go_loop [16] (fun i => ∃ k : Nat, k ≤ s.size ∧ i = .int .i64 k ∧ allW s k = true) (fun i => s.size - (intOf i).toNat)
      case atStart => exact ⟨0, Nat.zero_le _, rfl, rfl⟩
      case round =>
        obtain ⟨k, hk, rfl, hall⟩ := hrel
        have Hall := Hd.mk hall
        clear hall
        by_cases hlt : k < s.size
        · have hbk := Hd.mk (bt_eq s k hlt)
          cases h1 : letB (s[k].toNat) <;> cases h2 : digB (s[k].toNat)
          all_goals
            go_wp2_with (first | (go_at_call 67; refine (letter_any _ _).mono ?_; rintro e w' ⟨rfl, rfl⟩) | (go_at_call 69; refine (digit_any _ _).mono ?_; rintro e w' ⟨rfl, rfl⟩))
          · go_ret
            exact ⟨ret_int (kind_no s k hlt (by rw [← hbk.out, wcB, h1, h2]; rfl)).symm, Below.refl _ _⟩
          all_goals exact ⟨⟨k + 1, by omega, by go_num, by rw [allW, Hall.out, ← hbk.out, wcB, h1, h2]; rfl⟩, by simp [intOf]; omega⟩
        · obtain rfl : k = s.size := by omega
          go_wp2
          · have hk : isKey s = true := by assumption
            go_ret
            exact ⟨ret_int (by rw [kind_all s hpos Hb.out Hall.out, hk]; rfl), (Below.refl _ _).alloc (Nat.le_refl _) _⟩
          · have hk : isKey s = false := by assumption
            go_ret
            exact ⟨ret_int (by rw [kind_all s hpos Hb.out Hall.out, hk]; rfl), (Below.refl _ _).alloc (Nat.le_refl _) _⟩
end Go.Proofs.YtnjnadlgndjnbaaDoor.Lx
