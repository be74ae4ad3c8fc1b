/- Plain laws of the references: words, kinds, operators, widths, sizes, depths, names. -/
import Derived.Test.YtgkhpecllhiidaaDoorZAc
import Derived.Test.YtgkhpecllhiidaaDoorZBn
import Derived.Test.YtgkhpecllhiidaaDoorZDx1
set_option linter.unusedVariables false
set_option linter.unusedSimpArgs false
namespace Go.Proofs.YtgkhpecllhiidaaDoor.A
open Go.RowKit Go.Shelf Go.Proofs.YtgkhpecllhiidaaDoor.As Go.Proofs.YtgkhpecllhiidaaDoorW.PrintWords Go.Proofs.YtgkhpecllhiidaaDoorW.PrintLast Go.Proofs.YtgkhpecllhiidaaDoorW.PrintMore
open Lx (letB digB wcB allW kindOf isKey keyList)
theorem w64 (n : Nat) (h : n < 9223372036854775807) : wrap64 ((n : Int) + 1) = ((n + 1 : Nat) : Int) := by unfold wrap64; omega
theorem bt_nat (s : ByteArray) (i : Nat) : Go.Proofs.YtgkhpecllhiidaaDoorW.PrintWords.bt s (i : Int) = Lx.bt s i := rfl
theorem letter_eq (c : Int) : lamplighterref05_letter.f c = some (letB c) := by
  unfold lamplighterref05_letter.f letB
  split
  · split
    · simp_all
    · rename_i h1 h2
      have : decide (c ≤ 122) = false := by simpa using h2
      simp [this]
  · rename_i h
    have : decide (97 ≤ c) = false := by simpa using h
    simp [this]
theorem digit_eq (c : Int) : lamplighterref05_digit.f c = some (digB c) := by
  unfold lamplighterref05_digit.f digB
  split
  · simp_all
  · rename_i h
    have : decide (48 ≤ c) = false := by simpa using h
    simp [this]
theorem keys_loop (s : ByteArray) (ks : List ByteArray) (hk : ks.length < 9223372036854775807) : ∀ (n k j : Nat), ks.length - j ≤ n → n < k → j ≤ ks.length →
    lamplighterref05_Kind.l1 k s ks (j : Int) = some (if (ks.drop j).any (fun x => decide (x.toList = s.toList)) then 2 else 1) := by
  intro n; induction n with
  | zero =>
    intro k j h1 h2 h3
    cases k with
    | zero => omega
    | succ k =>
      unfold lamplighterref05_Kind.l1
      rw [if_neg (by omega), List.drop_of_length_le (by omega)]
      rfl
  | succ n ih =>
    intro k j h1 h2 h3
    cases k with
    | zero => omega
    | succ k =>
      unfold lamplighterref05_Kind.l1
      by_cases hj : j < ks.length
      · have hr : rdOf ByteArray.empty ks (j : Int) = ks[j] := by
          unfold rdOf
          rw [Int.toNat_natCast, List.getD_eq_getElem?_getD, List.getElem?_eq_getElem hj]; rfl
        rw [if_pos (by omega), if_pos (by omega), hr, w64 j (by omega), ih k (j + 1) (by omega) (by omega) (by omega), List.drop_eq_getElem_cons hj, List.any_cons]
        split <;> simp_all
      · rw [if_neg (by omega), List.drop_of_length_le (by omega)]
        rfl
theorem keys_any (s : ByteArray) : ([(⟨#[115, 116, 97, 99, 107]⟩ : ByteArray), (⟨#[112, 111, 114, 116]⟩ : ByteArray), (⟨#[114, 101, 97, 100]⟩ : ByteArray), (⟨#[119, 114, 105, 116, 101]⟩ : ByteArray), (⟨#[98, 111, 116, 104]⟩ : ByteArray), (⟨#[102, 117, 110, 99]⟩ : ByteArray), (⟨#[109, 97, 105, 110]⟩ : ByteArray), (⟨#[111, 110]⟩ : ByteArray), (⟨#[112, 114, 105, 111]⟩ : ByteArray), (⟨#[105, 102]⟩ : ByteArray), (⟨#[101, 108, 115, 101]⟩ : ByteArray), (⟨#[119, 104, 105, 108, 101]⟩ : ByteArray), (⟨#[114, 101, 116, 117, 114, 110]⟩ : ByteArray), (⟨#[101, 110, 97, 98, 108, 101]⟩ : ByteArray), (⟨#[100, 105, 115, 97, 98, 108, 101]⟩ : ByteArray), (⟨#[108, 101, 118, 101, 108]⟩ : ByteArray), (⟨#[97, 116, 111, 109, 105, 99]⟩ : ByteArray), (⟨#[117, 56]⟩ : ByteArray), (⟨#[117, 49, 54]⟩ : ByteArray), (⟨#[117, 51, 50]⟩ : ByteArray), (⟨#[105, 51, 50]⟩ : ByteArray)] : List ByteArray).any (fun x => decide (x.toList = s.toList)) = isKey s := by
  have hp : ∀ l : List ByteArray, l.any (fun x => decide (x.toList = s.toList)) = (l.map (·.data.toList)).contains s.data.toList := by
    intro l; induction l with
    | nil => rfl
    | cons x l ih =>
      rw [List.any_cons, ih, List.map_cons, List.contains_cons, ByteArray.toList_eq, ByteArray.toList_eq]
      congr 1
      rw [Bool.eq_iff_iff, decide_eq_true_iff, beq_iff_eq]
      exact ⟨Eq.symm, Eq.symm⟩
  rw [hp]
  unfold isKey
  rw [Bool.eq_iff_iff, List.contains_iff_mem, List.contains_iff_mem]
  exact List.Perm.mem_iff (by decide +kernel)
theorem kind_loop (s : ByteArray) (hs : s.size < 9223372036854775000) : ∀ (n k i : Nat), s.size - i ≤ n → n + 30 < k → i ≤ s.size → allW s i = true → (i = 0 ∨ letB (Lx.bt s 0) = true) →
    lamplighterref05_Kind.l0 k s (i : Int) = some (kindOf s) := by
  intro n; induction n with
  | zero =>
    intro k i h1 h2 h3 ha hl
    obtain rfl : i = s.size := by omega
    cases k with
    | zero => omega
    | succ k =>
      unfold lamplighterref05_Kind.l0
      rw [if_neg (by omega)]
      by_cases h0 : s.size = 0
      · rw [if_pos (Lx.nil_of s h0)]
        simp [kindOf, h0]
      · have hne : ¬ (s.toList = ([] : List UInt8)) := by
          intro h; have := Lx.blen s; rw [h] at this; simp at this; omega
        rw [if_neg hne]
        show lamplighterref05_Kind.l1 k s _ ((0 : Nat) : Int) = _
        rw [keys_loop s _ (by simp) 25 k 0 (by simp) (by omega) (by omega), List.drop_zero, keys_any, Lx.kind_all s (by omega) (by rcases hl with h | h; omega; exact h) ha]
  | succ n ih =>
    intro k i h1 h2 h3 ha hl
    cases k with
    | zero => omega
    | succ k =>
      by_cases hi : i < s.size
      · unfold lamplighterref05_Kind.l0
        have hw := w64 i (by omega)
        rw [if_pos (by omega), if_pos (by omega), bt_nat, letter_eq, Option.bind_some]
        by_cases hlet : letB (Lx.bt s i) = true
        · rw [if_pos hlet, hw]
          exact ih k (i + 1) (by omega) (by omega) (by omega) (by simp [allW, ha, wcB, hlet]) (by
            rcases hl with h | h
            · subst h; exact .inr hlet
            · exact .inr h)
        · have hlf : letB (Lx.bt s i) = false := by simpa using hlet
          rw [if_neg hlet]
          by_cases h0 : i = 0
          · subst h0
            rw [if_pos (by omega)]
            simp [kindOf, hlf]
          · rw [if_neg (by omega), digit_eq, Option.bind_some]
            by_cases hd : digB (Lx.bt s i) = true
            · rw [if_pos hd, hw]
              exact ih k (i + 1) (by omega) (by omega) (by omega) (by simp [allW, ha, wcB, hd]) (by
                rcases hl with h | h
                · omega
                · exact .inr h)
            · rw [if_neg hd]
              have hdf : digB (Lx.bt s i) = false := by simpa using hd
              rw [Lx.kind_no s i hi (by simp [wcB, hlf, hdf])]
      · have hi : i = s.size := by omega
        exact (ih (k + 1) i (by omega) (by omega) (by omega) ha hl)
theorem kind_eq (s : ByteArray) (hs : s.size < 9223372036854775000) (k : Nat) (h : s.size + 30 < k) : lamplighterref05_Kind.f k s = some (kindOf s) :=
  kind_loop s hs s.size k 0 (by omega) h (by omega) rfl (.inl rfl)
theorem refWord (s : ByteArray) (w : World) (hs : s.size ≤ 140737488351232) : Calls Tryd.prog 82 #[.string s] w fun e w' => e = .returned (.bool (nameB s)) ∧ Below w.heap.size w w' :=
  lamplighterref06_word.calls (s.size + 31) s (nameB s) w (by unfold lamplighterref06_word.f; rw [kind_eq s (by omega) _ (by omega)]; rfl)
theorem refTy_f (ty : Int) : lamplighterref06_kind.f ty = some (decide (0 < widthI ty)) := by
  unfold lamplighterref06_kind.f widthI
  by_cases h1 : ty ≥ 1
  · rw [if_pos h1]
    by_cases h4 : ty ≤ 4
    · have : ty = 1 ∨ ty = 2 ∨ ty = 3 ∨ ty = 4 := by omega
      rcases this with rfl | rfl | rfl | rfl <;> rfl
    · rw [if_neg (by omega), if_neg (by omega), if_neg (by omega), if_neg (by omega), decide_eq_false h4]; rfl
  · rw [if_neg h1, if_neg (by omega), if_neg (by omega), if_neg (by omega), if_neg (by omega)]; rfl
theorem refTy (ty : Int) (w : World) : Calls Tryd.prog 83 #[.int .i64 ty] w fun e w' => e = .returned (.bool (decide (0 < widthI ty))) ∧ Below w.heap.size w w' :=
  (lamplighterref06_kind.calls ty _ w (refTy_f ty)).mono fun e w' h => ⟨h.1, h.2.below⟩
theorem refBin_f (op : Int) : lamplighterref06_binary.f op = some (opB op) := by
  unfold lamplighterref06_binary.f opB opL
  repeat' split
  all_goals first
    | (rename_i h; subst h; rfl)
    | skip
  · rename_i h6 h7 h13 h18 h19 h1
    by_cases h : op ≤ 21
    · have : op = 1 ∨ op = 2 ∨ op = 3 ∨ op = 4 ∨ op = 5 ∨ op = 8 ∨ op = 9 ∨ op = 10 ∨ op = 11 ∨ op = 12 ∨ op = 14 ∨ op = 15 ∨ op = 16 ∨ op = 17 ∨ op = 20 ∨ op = 21 := by omega
      rcases this with rfl | rfl | rfl | rfl | rfl | rfl | rfl | rfl | rfl | rfl | rfl | rfl | rfl | rfl | rfl | rfl <;> rfl
    · rw [decide_eq_false h]
      refine congrArg some (Eq.symm ?_)
      rw [Bool.eq_false_iff]
      intro hc
      have := List.contains_iff_mem.1 hc
      simp at this
      omega
  · rename_i h6 h7 h13 h18 h19 h1
    refine congrArg some (Eq.symm ?_)
    rw [Bool.eq_false_iff]
    intro hc
    have := List.contains_iff_mem.1 hc
    simp at this
    omega
theorem refBin (op : Int) (w : World) : Calls Tryd.prog 115 #[.int .i64 op] w fun e w' => e = .returned (.bool (opB op)) ∧ Below w.heap.size w w' :=
  (lamplighterref06_binary.calls op _ w (refBin_f op)).mono fun e w' h => ⟨h.1, h.2.below⟩
theorem refUn_f (op : Int) : lamplighterref01_Name.f op = some (wordName op) := by
  unfold lamplighterref01_Name.f wordName
  rw [Option.bind_some]
  by_cases h1 : op < 1
  · rw [if_pos h1, if_neg (by omega), if_neg (by omega), if_neg (by omega)]
  · rw [if_neg h1]
    by_cases h4 : op ≥ 4
    · rw [if_pos (by simpa using h4), if_neg (by omega), if_neg (by omega), if_neg (by omega)]
    · have : op = 1 ∨ op = 2 ∨ op = 3 := by omega
      rcases this with rfl | rfl | rfl <;> rfl
theorem refUn (op : Int) (w : World) : Calls Tryd.prog 114 #[.int .i64 op] w fun e w' => e = .returned (.string (wordName op)) ∧ Below w.heap.size w w' := lamplighterref01_Name.calls op _ w (refUn_f op)
theorem refWidth (ty : Int) (w : World) : Calls Tryd.prog 48 #[.int .i64 ty] w fun e w' => e = .returned (.int .i64 (widthI ty)) ∧ Below w.heap.size w w' :=
  (lamplighterref06_Width.calls ty _ w (by unfold lamplighterref06_Width.f widthI; (repeat' split) <;> rfl)).mono fun e w' h => ⟨h.1, h.2.below⟩
end Go.Proofs.YtgkhpecllhiidaaDoor.A
