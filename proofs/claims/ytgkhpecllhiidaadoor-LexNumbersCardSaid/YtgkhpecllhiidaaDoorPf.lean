/- Plain laws of the reference of chapter 5: all tokens. -/
import Derived.Test.YtgkhpecllhiidaaDoorPe
import Derived.Test.YtgkhpecllhiidaaDoorQx4b
set_option linter.unusedVariables false
set_option linter.unusedSimpArgs false
namespace Go.Proofs.YtgkhpecllhiidaaDoor.Q
open Go.RowKit Go.Proofs.YtgkhpecllhiidaaDoorW.PrintWords Go.Proofs.YtgkhpecllhiidaaDoorW.PrintLast Go.Proofs.YtgkhpecllhiidaaDoorW.PrintMore
open Lx (letB digB wcB allW kindOf isKey keyList hexOk hexV nscan numStop isHex numScan numAt wscan wordLen signLen adv betw comLen isCom blankB nlC lexStep lexFrom lexAll toks Tk LexR)

theorem adv_flat (s : ByteArray) (i : Nat) (lc : Int × Int) : ∀ n : Nat, (∀ m, m < n → Lx.bt s (i + m) ≠ 10) → adv s i lc n = (lc.1, lc.2 + n) := by
  intro n; induction n with
  | zero => intro _; simp [adv]
  | succ n ih =>
    intro h
    rw [adv, ih (fun m hm => h m (by omega))]
    simp only
    rw [if_neg (h n (by omega))]
    simp only [Prod.mk.injEq, true_and]
    push_cast; omega
theorem wc_ten {c : Int} (h : wcB c = true) : c ≠ 10 := by intro e; subst e; revert h; decide
theorem e_byte (c z : UInt8) : ((c.toNat : Int) == (z.toNat : Int)) = (z == c) := by
  rw [Bool.eq_iff_iff, beq_iff_eq, beq_iff_eq]
  constructor
  · intro e; exact UInt8.toNat_inj.1 (by omega)
  · intro e; rw [e]
theorem hp_com (s : ByteArray) (i : Nat) (h : i < s.size) : hp (s.extract i s.size) ⟨#[47, 47]⟩ = isCom s i := by
  rw [hp_list, extract_end]
  cases hd : s.data.toList.drop i with
  | nil => have := congrArg List.length hd; simp at this; omega
  | cons c0 r =>
    have g0 := bt_head hd
    have hh : isCom s i = ((47 == c0) && (Lx.bt s (i + 1) == 47)) := by
      unfold isCom; rw [g0]
      show (((c0.toNat : Int) == ((47 : UInt8).toNat : Int)) && _) = _
      rw [e_byte]
    cases r with
    | nil =>
      have h2 : Lx.bt s (i + 1) = 0 := Lx.bt_out _ _ (by have := congrArg List.length hd; simp at this; omega)
      rw [hh, h2]; simp [List.isPrefixOf]
    | cons c1 r =>
      have g1 := bt_head (drop_succ hd)
      rw [hh, g1]
      show _ = (_ && ((c1.toNat : Int) == ((47 : UInt8).toNat : Int)))
      rw [e_byte]; simp [List.isPrefixOf]
theorem com_run (s : ByteArray) (i : Nat) (h : i < s.size) (hc : Lx.bt s i ≠ 10) : (∀ m, m < comLen s i → Lx.bt s (i + m) ≠ 10) ∧ (i + comLen s i < s.size → Lx.bt s (i + comLen s i) = 10) := by
  have hr := Lx.nlC_range s i h hc
  have hno : ∀ m, (s.data.toList.drop i)[m]? ≠ some 10 → Lx.bt s (i + m) ≠ 10 := by
    intro m hm e
    apply hm
    rw [List.getElem?_drop]
    rw [Lx.bt_list, List.getD_eq_getElem?_getD] at e
    cases hg : s.data.toList[i + m]? with
    | none => rw [hg] at e; simp at e
    | some b =>
      rw [hg] at e
      simp at e
      congr 1
      exact UInt8.toNat_inj.1 (by have : b.toNat = 10 := by omega
                                  rw [this]; rfl)
  unfold comLen
  split
  · rename_i hn
    have h1 : Lib.indexByte (s.data.toList.drop i) 10 = -1 := by
      have : nlC (s.extract i s.size) = -1 := by omega
      unfold nlC at this; rwa [extract_end] at this
    exact ⟨fun m hm => hno m (Lib.indexByte_none h1 m), fun h' => by omega⟩
  · rename_i hn
    obtain ⟨o, ho⟩ := Int.eq_ofNat_of_zero_le (by omega : 0 ≤ nlC (s.extract i s.size))
    have h1 : Lib.indexByte (s.data.toList.drop i) 10 = (o : Int) := by
      unfold nlC at ho; rwa [extract_end] at ho
    rw [ho, Int.toNat_natCast]
    exact ⟨fun m hm => hno m ((Lib.indexByte_some h1).2 m hm), fun _ => (Lx.nlC_some s i o (by omega) ho).2⟩

def outOf (R : LexR) : List S59 × Int × Int × Int := ((toks R).map s59, faultOf R)
theorem rl_com (s : ByteArray) (hs : s.size ≤ 65536) (L : List S59) (line : Int) : ∀ (m k i : Nat) (col : Int), (∀ q, q < m → Lx.bt s (i + q) ≠ 10) → i + m ≤ s.size → (i + m < s.size → Lx.bt s (i + m) = 10) → 0 ≤ col → col ≤ i + 1 →
    lamplighterref05_All.l1 (k + m + 1) s L line col (i : Int) = lamplighterref05_All.l0 k s L line (col + m) ((i + m : Nat) : Int) := by
  intro m; induction m with
  | zero =>
    intro k i col h1 h2 h3 hc0 hc1
    unfold lamplighterref05_All.l1
    have e : col + ((0 : Nat) : Int) = col := by omega
    rw [e, Nat.add_zero]
    by_cases hi : i < s.size
    · have h10 : Lx.bt s i = 10 := h3 hi
      rw [if_pos (by omega), if_pos (by omega), bt_nat, if_pos h10]
    · rw [if_neg (by omega)]
  | succ m ih =>
    intro k i col h1 h2 h3 hc0 hc1
    rw [show k + (m + 1) + 1 = (k + m + 1) + 1 from by omega]
    unfold lamplighterref05_All.l1
    have h0 := h1 0 (by omega)
    rw [Nat.add_zero] at h0
    rw [if_pos (by omega), if_pos (by omega), bt_nat, if_neg h0, w64 i (by omega), w64a (col + 1) (by omega), ih k (i + 1) (col + 1) (fun q hq => by have := h1 (q + 1) (by omega); rwa [show i + (q + 1) = i + 1 + q from by omega] at this) (by omega) (by rwa [show i + (m + 1) = i + 1 + m from by omega] at h3) (by omega) (by push_cast; omega)]
    rw [show i + 1 + m = i + (m + 1) from by omega]
    congr 1
    push_cast; omega
theorem rl_blank (s : ByteArray) (hs : s.size ≤ 65536) (L : List S59) (lc : Int × Int) (i : Nat) (hi : i < s.size) (hb : blankB (Lx.bt s i) = true) (h1 : 0 ≤ lc.1 ∧ lc.1 ≤ i + 1) (h2 : 0 ≤ lc.2 ∧ lc.2 ≤ i + 1) :
    ∃ d, 1 ≤ d ∧ d ≤ 2 ∧ ∀ k, lamplighterref05_All.l0 (k + d) s L lc.1 lc.2 (i : Int) = lamplighterref05_All.l0 k s L (adv s i lc 1).1 (adv s i lc 1).2 ((i + 1 : Nat) : Int) := by
  have ha : adv s i lc 1 = if Lx.bt s i = 10 then (lc.1 + 1, 1) else (lc.1, lc.2 + 1) := rfl
  by_cases h10 : Lx.bt s i = 10
  · refine ⟨1, by omega, by omega, fun k => ?_⟩
    rw [lamplighterref05_All.l0, if_pos (by omega), if_pos (by omega), bt_nat, if_pos h10, w64 i (by omega), w64a (lc.1 + 1) (by omega), ha, if_pos h10]
  · refine ⟨2, by omega, by omega, fun k => ?_⟩
    have hj : ∀ k, lamplighterref05_All.j1 (k + 1) s L lc.1 lc.2 (i : Int) true = lamplighterref05_All.l0 k s L lc.1 (lc.2 + 1) ((i + 1 : Nat) : Int) := by
      intro k
      rw [lamplighterref05_All.j1, if_pos rfl, w64 i (by omega), w64a (lc.2 + 1) (by omega)]
    rw [lamplighterref05_All.l0, if_pos (by omega), if_pos (by omega), bt_nat, if_neg h10, ha, if_neg h10]
    have hc := Lx.blank_cases _ hb
    simp only [beq_iff_eq, beq_eq_false_iff_ne] at hc
    rcases hc with h | ⟨h, h'⟩ | ⟨_, _, h⟩ | ⟨h, h', _, h''⟩
    · rw [if_pos h, hj]
    · rw [if_neg h, if_pos h', hj]
    · exact absurd h h10
    · rw [if_neg h, if_neg h', h'']; exact hj k
/-- At a place that is no blank. -/
theorem rl_else (s : ByteArray) (L : List S59) (line col : Int) (i k : Nat) (hi : i < s.size) (hb : blankB (Lx.bt s i) = false) :
    lamplighterref05_All.l0 (k + 1) s L line col (i : Int) = lamplighterref05_All.j1 k s L line col (i : Int) false := by
  obtain ⟨h1, h2, h3, h4⟩ := Lx.blank_no _ hb
  rw [lamplighterref05_All.l0, if_pos (by omega), if_pos (by omega), bt_nat, if_neg (by simpa using h3), if_neg (by simpa using h1), if_neg (by simpa using h2), h4]
theorem rl_rest (s : ByteArray) (L : List S59) (line col : Int) (i k : Nat) (hi : i < s.size) (hs : s.size ≤ 65536) :
    lamplighterref05_All.j1 (k + 1) s L line col (i : Int) false = if isCom s i = true then lamplighterref05_All.l1 k s L line col (i : Int) else ((lamplighterref05_token.f k (s.extract i s.size)).bind fun bt175 => (if bt175.1 = 0 then (some (([] : List S59), 11, line, col)) else (if L.length < 2932031007402 then (lamplighterref05_All.l0 k s (L ++ [(⟨bt175.1, bt175.2.1, line, col, bt175.2.2.2.2⟩ : S59)]) line (wrap64 (col + (bt175.2.1.size : Int))) (wrap64 ((i : Int) + (bt175.2.1.size : Int)))) else (none)))) := by
  rw [lamplighterref05_All.j1, if_neg (by simp), if_pos (by omega), if_pos (by omega), Int.toNat_natCast, hp_eq, Option.bind_some, hp_com s i hi]
/-- From a place to the next token. -/
theorem rl_betw (s : ByteArray) (hs : s.size ≤ 65536) (L : List S59) : ∀ (f i : Nat) (lc : Int × Int) (k : Nat), s.size - i < f → i ≤ s.size → (0 ≤ lc.1 ∧ lc.1 ≤ i + 1) → (0 ≤ lc.2 ∧ lc.2 ≤ i + 1) → 3 * (s.size - i) + 4 * s.size + 200 < k →
    ∃ k', 3 * (s.size - (betw s f i lc).2.1) + 4 * s.size + 200 < k' ∧ lamplighterref05_All.l0 k s L lc.1 lc.2 (i : Int) = lamplighterref05_All.l0 k' s L (betw s f i lc).2.2.1 (betw s f i lc).2.2.2 ((betw s f i lc).2.1 : Int) ∧
      (if (betw s f i lc).1 = 0 then (betw s f i lc).2.1 = s.size else (betw s f i lc).2.1 < s.size ∧ blankB (Lx.bt s (betw s f i lc).2.1) = false ∧ isCom s (betw s f i lc).2.1 = false ∧ (betw s f i lc).1 = if letB (Lx.bt s (betw s f i lc).2.1) then 1 else if digB (Lx.bt s (betw s f i lc).2.1) then 2 else 3) := by
  intro f; induction f with
  | zero => intro i lc k h; omega
  | succ f ih =>
    intro i lc k hf hi hl hc hk
    unfold betw
    by_cases hlt : i < s.size
    · rw [if_pos hlt]
      cases hb : blankB (Lx.bt s i) with
      | true =>
        simp only [if_true]
        have hin := Lx.adv_in s i 1 lc hl hc
        obtain ⟨d, hd1, hd2, h0⟩ := rl_blank s hs L lc i hlt hb hl hc
        obtain ⟨k', h3, h4, h5⟩ := ih (i + 1) (adv s i lc 1) (k - d) (by omega) (by omega) hin.1 hin.2 (by omega)
        refine ⟨k', h3, ?_, h5⟩
        rw [← h4, ← h0 (k - d), show k - d + d = k from by omega]
      | false =>
        simp only [Bool.false_eq_true, if_false]
        cases hcom : isCom s i with
        | true =>
          simp only [if_true]
          have h10 : Lx.bt s i ≠ 10 := by simpa using (Lx.blank_no _ hb).2.2.1
          obtain ⟨hc1, hc2⟩ := Lx.comLen_range s i hlt h10
          have hin := Lx.adv_in s i (comLen s i) lc hl hc
          obtain ⟨hr1, hr2⟩ := com_run s i hlt h10
          have hge : 2 ≤ comLen s i := by
            rcases Nat.lt_or_ge (comLen s i) 2 with h | h
            · have e1 : comLen s i = 1 := by omega
              have h47 := (Lx.com_yes hcom).2
              rw [beq_iff_eq] at h47
              rcases Nat.lt_or_ge (i + 1) s.size with h' | h'
              · rw [e1] at hr2; have := hr2 h'; omega
              · rw [Lx.bt_out s (i + 1) h'] at h47; omega
            · exact h
          generalize comLen s i = m at *
          obtain ⟨k', h3, h4, h5⟩ := ih (i + m) (adv s i lc m) (k - (m + 3)) (by omega) (by omega) hin.1 hin.2 (by omega)
          refine ⟨k', h3, ?_, h5⟩
          obtain ⟨q, rfl⟩ : ∃ q, k = q + m + 1 + 1 + 1 := ⟨k - (m + 3), by omega⟩
          rw [rl_else s L lc.1 lc.2 i _ hlt hb, rl_rest s L lc.1 lc.2 i _ hlt hs, if_pos hcom, rl_com s hs L lc.1 m q i lc.2 hr1 hc2 hr2 hc.1 hc.2, ← h4, adv_flat s i lc m hr1, show q + m + 1 + 1 + 1 - (m + 3) = q from by omega]
        | false =>
          simp only [Bool.false_eq_true, if_false]
          refine ⟨k, hk, rfl, ?_⟩
          rw [if_neg (by split <;> (try split) <;> omega)]
          exact ⟨hlt, hb, hcom, trivial⟩
    · rw [if_neg hlt]
      obtain rfl : i = s.size := by omega
      exact ⟨k, hk, rfl, by simp⟩

/-- A token's shape, in the reference's terms: its length. -/
structure TokOk (s : ByteArray) (i n : Nat) (kind : Int) (num : Int) : Prop where
  res : tokRes s i = (kind, s.extract i (i + n), 0, 0, num)
  kind : kind ≠ 0
  pos : 0 < n
  fit : i + n ≤ s.size
  flat : ∀ m, m < n → Lx.bt s (i + m) ≠ 10
theorem tok_word (s : ByteArray) (i : Nat) (hl : letB (Lx.bt s i) = true) : TokOk s i (wordLen s i) (kindOf (s.extract i (i + wordLen s i))) 0 := by
  have R := run_at s i (by unfold wcB; rw [hl]; rfl)
  generalize hn : wordLen s i = n at *
  refine ⟨by unfold tokRes; rw [if_pos hl, hn], ?_, R.pos, R.fit, fun m hm => wc_ten (R.all m hm)⟩
  have hsz : (s.extract i (i + n)).size = n := by have := R.fit; simp; omega
  have h0 : letB (Lx.bt (s.extract i (i + n)) 0) = true := by rw [bt_piece s i n 0 R.fit R.pos]; exact hl
  have ha : ∀ m, m ≤ n → allW (s.extract i (i + n)) m = true := by
    intro m; induction m with
    | zero => intro _; rfl
    | succ m ih => intro h; simp only [allW]; rw [ih (by omega), bt_piece s i n m R.fit (by omega), R.all m (by omega)]; rfl
  have hp := R.pos
  rw [Lx.kind_all _ (by omega) h0 (by rw [hsz]; exact ha n (Nat.le_refl _))]
  split <;> omega
theorem dig_wc {c : Int} (h : digB c = true) : wcB c = true := by unfold wcB; rw [h, Bool.or_true]
theorem dig_not_let {c : Int} (hd : digB c = true) : letB c = false := by
  have hc : 48 ≤ c ∧ c ≤ 57 := by simpa [digB] using hd
  have h1 : decide (97 ≤ c) = false := by rw [decide_eq_false_iff_not]; omega
  have h2 : (c == 95) = false := by rw [beq_eq_false_iff_ne]; omega
  simp [letB, h1, h2]
theorem num_len {s : ByteArray} {i : Nat} (hs : s.size < 9223372036854775000) (hd : digB (Lx.bt s i) = true) {nv : Nat × Int} (h : numAt s i = some nv) : nv.1 = wordLen s i := by
  have R := run_at s i (dig_wc hd)
  obtain ⟨v, b, _, h2⟩ := number_at s i _ hs R (2 * wordLen s i + 10) (by omega)
  rw [h] at h2
  split at h2
  · rw [Option.some.inj h2]
  · cases h2
theorem tok_num (s : ByteArray) (i : Nat) (hs : s.size < 9223372036854775000) (hd : digB (Lx.bt s i) = true) (nv : Nat × Int) (h : numAt s i = some nv) : TokOk s i nv.1 3 nv.2 := by
  have R := run_at s i (dig_wc hd)
  rw [num_len hs hd h]
  refine ⟨?_, by omega, R.pos, R.fit, fun m hm => wc_ten (R.all m hm)⟩
  unfold tokRes
  rw [if_neg (by rw [dig_not_let hd]; simp), if_pos hd, h]
  simp only
  rw [num_len hs hd h]
theorem pair_ten {a b : UInt8} (h : pairOk a b = true) : a ≠ 10 ∧ b ≠ 10 := by
  unfold pairOk at h
  simp only [Bool.or_eq_true, Bool.and_eq_true, beq_iff_eq] at h
  rcases h with ((((⟨rfl, rfl⟩ | ⟨rfl, rfl⟩) | ⟨rfl, rfl⟩) | ⟨rfl, rfl⟩) | ⟨rfl, rfl⟩) | ⟨rfl, rfl⟩ <;> exact ⟨by decide, by decide⟩
theorem nat_ten {c : UInt8} (h : c ≠ 10) : (c.toNat : Int) ≠ 10 := by
  intro e; apply h
  have : c.toNat = 10 := by omega
  exact UInt8.toNat_inj.1 (by rw [this]; rfl)
theorem sign_flat (s : ByteArray) (i : Nat) (hi : i < s.size) (h0 : signLen s i ≠ 0) : i + signLen s i ≤ s.size ∧ ∀ m, m < signLen s i → Lx.bt s (i + m) ≠ 10 := by
  unfold signLen at h0 ⊢
  cases h2 : Lx.two s i
  · rw [h2] at h0
    simp only [Bool.false_eq_true, if_false] at h0 ⊢
    cases h1 : Lx.one (Lx.bt s i)
    · rw [h1] at h0; simp at h0
    · simp only [if_true]
      refine ⟨by omega, fun m hm => ?_⟩
      obtain rfl : m = 0 := by omega
      rw [Nat.add_zero]
      intro e; rw [e] at h1; revert h1; decide
  · simp only [if_true]
    have hl : i + 2 ≤ s.size := by
      unfold Lx.two at h2
      simp only [Bool.and_eq_true, decide_eq_true_eq] at h2
      exact h2.1.1.1
    refine ⟨hl, ?_⟩
    cases hd : s.data.toList.drop i with
    | nil => have := congrArg List.length hd; simp at this; omega
    | cons c0 r =>
      cases r with
      | nil => have := congrArg List.length hd; simp at this; omega
      | cons c1 r =>
        rw [two_eq s i c0 c1 r hd] at h2
        obtain ⟨ha, hb⟩ := pair_ten h2
        intro m hm
        rcases (by omega : m = 0 ∨ m = 1) with rfl | rfl
        · rw [Nat.add_zero, bt_head hd]; exact nat_ten ha
        · rw [bt_head (drop_succ hd)]; exact nat_ten hb
theorem tok_sign (s : ByteArray) (i : Nat) (hi : i < s.size) (hl : letB (Lx.bt s i) = false) (hd : digB (Lx.bt s i) = false) (h0 : signLen s i ≠ 0) : TokOk s i (signLen s i) 4 0 := by
  obtain ⟨h1, h2⟩ := sign_flat s i hi h0
  refine ⟨?_, by omega, by omega, h1, h2⟩
  unfold tokRes
  rw [hl, hd, if_neg (by simp), if_neg (by simp), if_neg h0]
theorem out_fault (l : List Tk) (lc : Int × Int) : outOf (l, some lc) = ([], 11, lc.1, lc.2) := rfl
theorem out_end (l : List Tk) : outOf (l, none) = (l.map s59, 0, 0, 0) := rfl
/-- One token, read by the reference. -/
theorem rl_token (s : ByteArray) (hs : s.size ≤ 65536) (l : List Tk) (hll : l.length ≤ s.size) (lc : Int × Int) (i k n : Nat) (kind num : Int) (hi : i < s.size) (hb : blankB (Lx.bt s i) = false) (hc : isCom s i = false) (T : TokOk s i n kind num) (hk : 4 * s.size + 100 < k)
    (h2 : 0 ≤ lc.2 ∧ lc.2 ≤ i + 1) :
    lamplighterref05_All.l0 (k + 1 + 1) s (l.map s59) lc.1 lc.2 (i : Int) = lamplighterref05_All.l0 k s ((l ++ [(⟨kind, s.extract i (i + n), lc.1, lc.2, num⟩ : Tk)]).map s59) (adv s i lc n).1 (adv s i lc n).2 ((i + n : Nat) : Int) := by
  have hfit := T.fit
  have hsz : (s.extract i (i + n)).size = n := by simp; omega
  rw [rl_else s _ lc.1 lc.2 i _ hi hb, rl_rest s _ lc.1 lc.2 i _ hi hs, if_neg (by rw [hc]; simp), token_eq s i (by omega) hi k hk, Option.bind_some, T.res]
  simp only
  rw [if_neg T.kind, if_pos (by rw [List.length_map]; omega), hsz, w64a (lc.2 + (n : Int)) (by omega), w64a ((i : Int) + (n : Int)) (by omega), adv_flat s i lc n T.flat, List.map_append]
  rfl
theorem rl_none (s : ByteArray) (hs : s.size ≤ 65536) (L : List S59) (lc : Int × Int) (i k : Nat) (hi : i < s.size) (hb : blankB (Lx.bt s i) = false) (hc : isCom s i = false) (h0 : (tokRes s i).1 = 0) (hk : 4 * s.size + 100 < k) :
    lamplighterref05_All.l0 (k + 1 + 1) s L lc.1 lc.2 (i : Int) = some ([], 11, lc.1, lc.2) := by
  rw [rl_else s _ lc.1 lc.2 i _ hi hb, rl_rest s _ lc.1 lc.2 i _ hi hs, if_neg (by rw [hc]; simp), token_eq s i (by omega) hi k hk, Option.bind_some, if_pos h0]
theorem all_loop (s : ByteArray) (hs : s.size ≤ 65536) : ∀ (f i : Nat) (lc : Int × Int) (l : List Tk) (k : Nat), s.size - i < f → i ≤ s.size → (0 ≤ lc.1 ∧ lc.1 ≤ i + 1) → (0 ≤ lc.2 ∧ lc.2 ≤ i + 1) → l.length ≤ i → 3 * (s.size - i) + 4 * s.size + 200 < k →
    lamplighterref05_All.l0 k s (l.map s59) lc.1 lc.2 (i : Int) = some (outOf (lexFrom s f i lc l)) := by
  intro f; induction f with
  | zero => intro i lc l k h; omega
  | succ f ih =>
    intro i lc l k hf hi hl hc hll hk
    obtain ⟨k', h1, h2, h3⟩ := rl_betw s hs (l.map s59) (s.size + 1) i lc k (by omega) hi hl hc hk
    have hok := Lx.betw_ok s (s.size + 1) i lc (by omega) hi hl hc
    rw [h2, lexFrom]
    generalize hr : betw s (s.size + 1) i lc = r at *
    obtain ⟨st, j, lc'⟩ := r
    obtain ⟨hj1, hj2, _, hjl, hjk, _, _, _⟩ := hok
    unfold lexStep
    simp only at *
    by_cases h0 : st = 0
    · rw [if_pos h0] at h3
      subst h0 h3
      obtain ⟨k, rfl⟩ : ∃ q, k' = q + 1 := ⟨k' - 1, by omega⟩
      rw [if_pos rfl, lamplighterref05_All.l0, if_neg (by omega), out_end]
    · rw [if_neg h0] at h3 ⊢
      obtain ⟨hlt, hb, hcm, hst⟩ := h3
      obtain ⟨q, rfl⟩ : ∃ q, k' = q + 1 + 1 := ⟨k' - 2, by omega⟩
      have hgo : ∀ (n : Nat) (kind num : Int), TokOk s j n kind num → lamplighterref05_All.l0 (q + 1 + 1) s (l.map s59) lc'.1 lc'.2 (j : Int) = some (outOf (lexFrom s f (j + n) (adv s j lc' n) (l ++ [⟨kind, s.extract j (j + n), lc'.1, lc'.2, num⟩]))) := by
        intro n kind num T
        have hin := Lx.adv_in s j n lc' hjl hjk
        have hp := T.pos
        have hft := T.fit
        rw [rl_token s hs l (by omega) lc' j q n kind num hlt hb hcm T (by omega) hjk]
        exact ih (j + n) (adv s j lc' n) (l ++ [(⟨kind, s.extract j (j + n), lc'.1, lc'.2, num⟩ : Tk)]) q (by omega) T.fit hin.1 hin.2 (by rw [List.length_append, List.length_singleton]; omega) (by omega)
      by_cases hlet : letB (Lx.bt s j) = true
      · rw [if_pos hlet] at hst
        subst hst
        rw [if_pos rfl]
        exact hgo _ _ _ (tok_word s j hlet)
      · rw [if_neg hlet] at hst
        have hletf : letB (Lx.bt s j) = false := by simpa using hlet
        by_cases hdig : digB (Lx.bt s j) = true
        · rw [if_pos hdig] at hst
          subst hst
          rw [if_neg (by omega), if_pos rfl]
          cases hn : numAt s j with
          | none =>
            simp only
            rw [rl_none s hs _ lc' j q hlt hb hcm (by unfold tokRes; rw [if_neg hlet, if_pos hdig, hn]) (by omega)]
            rfl
          | some nv => exact hgo _ _ _ (tok_num s j (by omega) hdig nv hn)
        · rw [if_neg hdig] at hst
          have hdf : digB (Lx.bt s j) = false := by simpa using hdig
          subst hst
          rw [if_neg (by omega), if_neg (by omega)]
          by_cases hsg : signLen s j = 0
          · rw [if_pos hsg, rl_none s hs _ lc' j q hlt hb hcm (by unfold tokRes; rw [if_neg hlet, if_neg hdig, if_pos hsg]) (by omega)]
            rfl
          · rw [if_neg hsg]
            exact hgo _ _ _ (tok_sign s j hlt hletf hdf hsg)
theorem all_eq (s : ByteArray) (hs : s.size ≤ 65536) (k : Nat) (hk : 7 * s.size + 200 < k) : lamplighterref05_All.f k s = some (outOf (lexAll s)) := by
  unfold lamplighterref05_All.f
  rw [if_neg (by omega)]
  exact all_loop s hs (s.size + 1) 0 (1, 1) [] k (by omega) (by omega) (by omega) (by omega) (by simp) (by omega)
end Go.Proofs.YtgkhpecllhiidaaDoor.Q
