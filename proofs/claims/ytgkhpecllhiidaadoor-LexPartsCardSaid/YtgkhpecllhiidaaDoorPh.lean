/- Plain laws of chapter 5: one step of the lexer; sizes; joined tokens. -/
import Derived.Test.YtgkhpecllhiidaaDoorPg
set_option linter.unusedVariables false
set_option linter.unusedSimpArgs false
namespace Go.Proofs.YtgkhpecllhiidaaDoor.Q
open Go.RowKit Go.Proofs.YtgkhpecllhiidaaDoorW.PrintWords Go.Proofs.YtgkhpecllhiidaaDoorW.PrintLast Go.Proofs.YtgkhpecllhiidaaDoorW.PrintMore
open Lx (letB digB wcB numAt wordLen signLen adv betw comLen isCom blankB lexStep lexFrom lexAll toks Tk LexR)

theorem adv_add (s : ByteArray) (i : Nat) (lc : Int × Int) (m : Nat) : ∀ n : Nat, adv s (i + m) (adv s i lc m) n = adv s i lc (m + n) := by
  intro n; induction n with
  | zero => rfl
  | succ n ih => rw [adv, ih, ← Nat.add_assoc, adv]; simp only [Nat.add_assoc]
/-- What stands from i on to j: blanks and comments. -/
inductive Gap (s : ByteArray) : Nat → Nat → Prop
  | nil (i : Nat) : Gap s i i
  | blank (i j : Nat) (h : i < s.size) (hb : blankB (Lx.bt s i) = true) (g : Gap s (i + 1) j) : Gap s i j
  | com (i j : Nat) (h : i < s.size) (hb : blankB (Lx.bt s i) = false) (hc : isCom s i = true) (g : Gap s (i + comLen s i) j) : Gap s i j
structure Place (s : ByteArray) (i : Nat) (lc : Int × Int) (st j : Nat) (lc' : Int × Int) : Prop where
  le : i ≤ j
  fit : j ≤ s.size
  at_ : lc' = adv s i lc (j - i)
  gap : Gap s i j
  fin : st = 0 → j = s.size
  tok : st ≠ 0 → j < s.size ∧ blankB (Lx.bt s j) = false ∧ isCom s j = false ∧ st = if letB (Lx.bt s j) then 1 else if digB (Lx.bt s j) then 2 else 3
theorem betw_place (s : ByteArray) : ∀ (f i : Nat) (lc : Int × Int), s.size - i < f → i ≤ s.size → Place s i lc (betw s f i lc).1 (betw s f i lc).2.1 (betw s f i lc).2.2 := by
  intro f; induction f with
  | zero => intro i lc h; omega
  | succ f ih =>
    intro i lc hf hi
    unfold betw
    by_cases hlt : i < s.size
    · rw [if_pos hlt]
      cases hb : blankB (Lx.bt s i) with
      | true =>
        simp only [if_true]
        obtain ⟨h1, h2, h3, h4, h5, h6⟩ := ih (i + 1) (adv s i lc 1) (by omega) (by omega)
        refine ⟨by omega, h2, ?_, .blank i _ hlt hb h4, h5, h6⟩
        rw [h3, adv_add]; congr 1; omega
      | false =>
        simp only [Bool.false_eq_true, if_false]
        cases hcom : isCom s i with
        | true =>
          simp only [if_true]
          have h10 : Lx.bt s i ≠ 10 := by simpa using (Lx.blank_no _ hb).2.2.1
          obtain ⟨hc1, hc2⟩ := Lx.comLen_range s i hlt h10
          obtain ⟨h1, h2, h3, h4, h5, h6⟩ := ih (i + comLen s i) (adv s i lc (comLen s i)) (by omega) (by omega)
          refine ⟨by omega, h2, ?_, .com i _ hlt hb hcom h4, h5, h6⟩
          rw [h3, adv_add]; congr 1; omega
        | false =>
          simp only [Bool.false_eq_true, if_false]
          refine ⟨Nat.le_refl _, hi, ?_, .nil i, fun h => ?_, fun _ => ⟨hlt, hb, hcom, rfl⟩⟩
          · rw [Nat.sub_self]; rfl
          · split at h <;> (try split at h) <;> omega
    · rw [if_neg hlt]
      obtain rfl : i = s.size := by omega
      exact ⟨Nat.le_refl _, Nat.le_refl _, by rw [Nat.sub_self]; rfl, .nil _, fun _ => rfl, fun h => absurd rfl h⟩
/-- One step of the lexer. -/
theorem lex_step (s : ByteArray) (hs : s.size < 9223372036854775000) (f i : Nat) (lc : Int × Int) (l : List Tk) (hi : i ≤ s.size) :
    ∃ j, i ≤ j ∧ j ≤ s.size ∧ Gap s i j ∧ ((j = s.size ∧ lexFrom s (f + 1) i lc l = (l, none)) ∨
      (j < s.size ∧ blankB (Lx.bt s j) = false ∧ isCom s j = false ∧ (((tokRes s j).1 = 0 ∧ lexFrom s (f + 1) i lc l = (l, some (adv s i lc (j - i)))) ∨
        ∃ n kind num, TokOk s j n kind num ∧ lexFrom s (f + 1) i lc l = lexFrom s f (j + n) (adv s i lc (j + n - i)) (l ++ [⟨kind, s.extract j (j + n), (adv s i lc (j - i)).1, (adv s i lc (j - i)).2, num⟩])))) := by
  have hp := betw_place s (s.size + 1) i lc (by omega) hi
  rw [lexFrom]
  generalize betw s (s.size + 1) i lc = r at *
  obtain ⟨st, j, lc'⟩ := r
  obtain ⟨h1, h2, h3, h4, h5, h6⟩ := hp
  simp only at *
  refine ⟨j, h1, h2, h4, ?_⟩
  unfold lexStep
  simp only
  by_cases h0 : st = 0
  · rw [if_pos h0]; exact .inl ⟨h5 h0, rfl⟩
  · rw [if_neg h0]
    obtain ⟨hlt, hb, hcm, hst⟩ := h6 h0
    refine .inr ⟨hlt, hb, hcm, ?_⟩
    have hadv : ∀ n, adv s j lc' n = adv s i lc (j + n - i) := by
      intro n
      have := adv_add s i lc (j - i) n
      rw [show i + (j - i) = j from by omega] at this
      rw [h3, this]; congr 1; omega
    by_cases hlet : letB (Lx.bt s j) = true
    · rw [if_pos hlet] at hst
      rw [if_pos hst]
      refine .inr ⟨_, _, _, tok_word s j hlet, ?_⟩
      rw [hadv, h3]
    · rw [if_neg hlet] at hst
      have hletf : letB (Lx.bt s j) = false := by simpa using hlet
      by_cases hdig : digB (Lx.bt s j) = true
      · rw [if_pos hdig] at hst
        rw [if_neg (by omega), if_pos hst]
        cases hn : numAt s j with
        | none => exact .inl ⟨by unfold tokRes; rw [if_neg hlet, if_pos hdig, hn], by simp only; rw [h3]⟩
        | some nv =>
          refine .inr ⟨_, _, _, tok_num s j hs hdig nv hn, ?_⟩
          simp only
          rw [hadv, h3]
      · rw [if_neg hdig] at hst
        have hdf : digB (Lx.bt s j) = false := by simpa using hdig
        rw [if_neg (by omega), if_neg (by omega)]
        by_cases hsg : signLen s j = 0
        · rw [if_pos hsg]
          exact .inl ⟨by unfold tokRes; rw [if_neg hlet, if_neg hdig, if_pos hsg], by rw [h3]⟩
        · rw [if_neg hsg]
          refine .inr ⟨_, _, _, tok_sign s j hlt hletf hdf hsg, ?_⟩
          rw [hadv, h3]
def textSum (l : List Tk) : Nat := (l.map fun t => t.text.size).sum
theorem lex_size (s : ByteArray) (hs : s.size < 9223372036854775000) : ∀ (f i : Nat) (lc : Int × Int) (l : List Tk), i ≤ s.size → l.length ≤ i → textSum l ≤ i → (lexFrom s f i lc l).1.length ≤ s.size ∧ textSum (lexFrom s f i lc l).1 ≤ s.size := by
  intro f; induction f with
  | zero => intro i lc l h1 h2 h3; exact ⟨by show l.length ≤ _; omega, by show textSum l ≤ _; omega⟩
  | succ f ih =>
    intro i lc l h1 h2 h3
    obtain ⟨j, hij, hj, _, h | ⟨_, _, _, ⟨_, h⟩ | ⟨n, kind, num, T, h⟩⟩⟩ := lex_step s hs f i lc l h1
    · rw [h.2]; exact ⟨by show l.length ≤ _; omega, by show textSum l ≤ _; omega⟩
    · rw [h]; exact ⟨by show l.length ≤ _; omega, by show textSum l ≤ _; omega⟩
    · rw [h]
      have hp := T.pos
      have hf := T.fit
      refine ih (j + n) _ _ hf (by rw [List.length_append, List.length_singleton]; omega) ?_
      unfold textSum at *
      rw [List.map_append, List.sum_append]
      have : (s.extract j (j + n)).size = n := by simp; omega
      simp only [List.map_cons, List.map_nil, List.sum_cons, List.sum_nil, this]
      omega
theorem toks_le (R : LexR) : (toks R).length ≤ R.1.length ∧ textSum (toks R) ≤ textSum R.1 := by
  unfold toks
  cases R.2 <;> simp [textSum]
theorem toks_size (s : ByteArray) (hs : s.size < 9223372036854775000) : (toks (lexAll s)).length ≤ s.size ∧ textSum (toks (lexAll s)) ≤ s.size := by
  have h := lex_size s hs (s.size + 1) 0 (1, 1) [] (by omega) (by simp) (by simp [textSum])
  have h2 := toks_le (lexAll s)
  exact ⟨Nat.le_trans h2.1 h.1, Nat.le_trans h2.2 h.2⟩

/-! ### Joined tokens -/
def textsOf (l : List S59) : List ByteArray := l.map (·.f1)
def textSum' (l : List S59) : Nat := (l.map fun t => t.f1.size).sum
theorem tail_len (ys : List ByteArray) : (Lib.joinTail [32] (ys.map (·.data.toList))).length = (ys.map (·.size)).sum + ys.length := by
  unfold Lib.joinTail
  induction ys with
  | nil => rfl
  | cons y ys ih =>
    simp only [List.map_cons, List.flatten_cons, List.length_append, List.sum_cons, List.length_cons, List.length_nil] at ih ⊢
    rw [ih]
    have : y.data.toList.length = y.size := by simp
    rw [this]; omega
theorem joinB_size (xs : List ByteArray) : (joinB xs ⟨#[32]⟩).size ≤ (xs.map (·.size)).sum + xs.length := by
  cases xs with
  | nil => exact Nat.le_refl _
  | cons y ys =>
    have e : (joinB (y :: ys) ⟨#[32]⟩).size = y.size + (Lib.joinTail [32] (ys.map (·.data.toList))).length := by
      show (joinB (y :: ys) ⟨#[32]⟩).data.size = _
      unfold joinB
      simp only [List.map_cons, Lib.join_cons]
      simp
    rw [e, tail_len]; simp only [List.map_cons, List.sum_cons, List.length_cons]; omega
theorem sum_take (l : List ByteArray) (i : Nat) : ((l.take i).map (·.size)).sum ≤ (l.map (·.size)).sum := by
  induction l generalizing i with
  | nil => simp
  | cons x l ih =>
    cases i with
    | zero => simp
    | succ i => simp only [List.take_succ_cons, List.map_cons, List.sum_cons]; have := ih i; omega
theorem sum_mem (l : List ByteArray) (x : ByteArray) (h : x ∈ l) : x.size ≤ (l.map (·.size)).sum := by
  induction l with
  | nil => cases h
  | cons y l ih =>
    simp only [List.map_cons, List.sum_cons]
    rcases List.mem_cons.1 h with rfl | h
    · omega
    · have := ih h; omega
theorem texts_take (l : List S59) (i : Nat) (h : i < l.length) : textsOf (l.take (i + 1)) = textsOf (l.take i) ++ [(l[i]).f1] := by
  unfold textsOf
  rw [List.take_add_one, List.getElem?_eq_getElem h, List.map_append]
  rfl
theorem lexJoin_loop (l : List S59) (hn : l.length ≤ 1000000) (hT : ((textsOf l).map (·.size)).sum ≤ 1000000) : ∀ (n k i : Nat), l.length - i = n → n < k → i ≤ l.length →
    lex_Join.l0 k (textsOf (l.take i)) l (l.length : Int) (i : Int) = some (joinB (textsOf l) ⟨#[32]⟩) := by
  intro n; induction n with
  | zero =>
    intro k i h1 h2 h3
    obtain rfl : i = l.length := by omega
    cases k with
    | zero => omega
    | succ k =>
      have h1 := joinB_size (textsOf l)
      have h3 : (textsOf l).length = l.length := by unfold textsOf; rw [List.length_map]
      rw [lex_Join.l0, if_neg (by omega), List.take_length, strings_Join.f, if_pos (by omega), if_pos (by omega)]
      rfl
  | succ n ih =>
    intro k i h1 h2 h3
    cases k with
    | zero => omega
    | succ k =>
      have hi : i < l.length := by omega
      have hih := ih k (i + 1) (by omega) (by omega) (by omega)
      rw [texts_take l i hi] at hih
      have hl : (textsOf (l.take i)).length ≤ 1000000 := by unfold textsOf; rw [List.length_map, List.length_take]; omega
      rw [lex_Join.l0, if_pos (by omega), if_pos (by omega), if_pos (by omega), if_pos (by omega), rd_at l i hi, w64 i (by omega)]
      exact hih
theorem lexJoin_eq (l : List S59) (hn : l.length ≤ 1000000) (hT : ((textsOf l).map (·.size)).sum ≤ 1000000) (k : Nat) (hk : l.length < k) : lex_Join.f k l = some (joinB (textsOf l) ⟨#[32]⟩) :=
  lexJoin_loop l hn hT l.length k 0 (by omega) hk (by omega)
/-- The kit's comparison of tokens with themselves. -/
theorem tokens_loop (l : List S59) (hn : l.length ≤ 1000000) : ∀ (n k i : Nat), l.length - i = n → n < k → i ≤ l.length → lamplighterkit_Tokens.l0 k l l (i : Int) = some true := by
  intro n; induction n with
  | zero =>
    intro k i h1 h2 h3
    obtain rfl : i = l.length := by omega
    cases k with
    | zero => omega
    | succ k => rw [lamplighterkit_Tokens.l0, if_neg (by omega)]
  | succ n ih =>
    intro k i h1 h2 h3
    cases k with
    | zero => omega
    | succ k =>
      rw [lamplighterkit_Tokens.l0, if_pos (by omega), if_pos (by omega), if_pos (by omega), w64 i (by omega), ih k (i + 1) (by omega) (by omega) (by omega), if_neg (by simp)]
theorem tokens_same (l : List S59) (hn : l.length ≤ 1000000) (k : Nat) (hk : l.length < k) : lamplighterkit_Tokens.f k l l = some true := by
  unfold lamplighterkit_Tokens.f
  rw [if_pos rfl]
  exact tokens_loop l hn l.length k 0 (by omega) hk (by omega)
theorem lives_any (k : Nat) (h : 5 ≤ k) : lamplighterlaw05_lives.f k = some true := by
  have h5 : lamplighterlaw05_lives.f 5 = some true := by kernel_rfl
  obtain ⟨d, rfl⟩ : ∃ d, k = 5 + d := ⟨k - 5, by omega⟩
  clear h
  induction d with
  | zero => exact h5
  | succ d ih => exact lamplighterlaw05_lives.mono (5 + d) _ ih
end Go.Proofs.YtgkhpecllhiidaaDoor.Q
