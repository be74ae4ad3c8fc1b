/- Plain laws of chapter 5: a text that stands inside another one is split there as alone. -/
import Derived.Test.YtgkhpecllhiidaaDoorPm
import Derived.Test.YtgkhpecllhiidaaDoorPn
set_option linter.unusedVariables false
set_option linter.unusedSimpArgs false
namespace Go.Proofs.YtgkhpecllhiidaaDoor.Q
open Go.RowKit Go.Proofs.YtgkhpecllhiidaaDoorW.PrintWords Go.Proofs.YtgkhpecllhiidaaDoorW.PrintLast Go.Proofs.YtgkhpecllhiidaaDoorW.PrintMore
open Lx (letB digB wcB kindOf numAt wordLen wscan signLen adv betw comLen isCom blankB lexStep lexFrom lexAll toks Tk LexR)

/-! ### A token's text inside another text -/
/-- The bytes of y from i on are those of s from j on, n of them; then a line end, or nothing, or what stands in s. -/
structure Copy2 (s y : ByteArray) (j i n : Nat) : Prop where
  fit : i + n ≤ y.size
  same : ∀ q, q < n → Lx.bt y (i + q) = Lx.bt s (j + q)
  next : Lx.bt y (i + n) = 10 ∨ i + n = y.size ∨ (j + n < s.size ∧ i + n < y.size ∧ Lx.bt y (i + n) = Lx.bt s (j + n))
theorem copy2_next {s y : ByteArray} {j i n : Nat} (C : Copy2 s y j i n) : Lx.bt y (i + n) = 10 ∨ Lx.bt y (i + n) = 0 ∨ Lx.bt y (i + n) = Lx.bt s (j + n) := by
  rcases C.next with h | h | h
  · exact .inl h
  · exact .inr (.inl (Lx.bt_out y _ (by omega)))
  · exact .inr (.inr h.2.2)
theorem copy2_text {s y : ByteArray} {j i n : Nat} (C : Copy2 s y j i n) (hf : j + n ≤ s.size) : y.extract i (i + n) = s.extract j (j + n) := by
  have h1 : (y.extract i (i + n)).size = n := by have := C.fit; simp; omega
  have h2 : (s.extract j (j + n)).size = n := by simp; omega
  refine bytes_eq (by omega) fun q hq => ?_
  rw [bt_piece y i n q C.fit (by omega), bt_piece s j n q hf (by omega)]
  exact C.same q (by omega)
theorem copy2_stop {s y : ByteArray} {j i n : Nat} (C : Copy2 s y j i n) (h : wcB (Lx.bt s (j + n)) = false) : wcB (Lx.bt y (i + n)) = false := by
  rcases copy2_next C with e | e | e <;> rw [e]
  · decide
  · decide
  · exact h
theorem tok_copy2 {s y : ByteArray} {j i n : Nat} {kind num : Int} (hs : s.size < 9223372036854775000) (hy : y.size < 9223372036854775000) (T : TokOk s j n kind num) (hb : blankB (Lx.bt s j) = false) (hc : isCom s j = false) (C : Copy2 s y j i n) :
    TokOk y i n kind num ∧ blankB (Lx.bt y i) = false ∧ isCom y i = false := by
  have hp := T.pos
  have hf := T.fit
  have hf' := C.fit
  have hj : j < s.size := by omega
  have h0 : Lx.bt y i = Lx.bt s j := by have := C.same 0 hp; rwa [Nat.add_zero, Nat.add_zero] at this
  have htext := copy2_text C hf
  refine ⟨?_, by rw [h0]; exact hb, ?_⟩
  · have hres := T.res
    have hflat : ∀ m, m < n → Lx.bt y (i + m) ≠ 10 := fun m hm => by rw [C.same m hm]; exact T.flat m hm
    refine ⟨?_, T.kind, hp, hf', hflat⟩
    by_cases hl : letB (Lx.bt s j) = true
    · have R := run_at s j (by unfold wcB; rw [hl]; rfl)
      have hr := (tok_word s j hl).res
      rw [hres] at hr
      simp only [Prod.mk.injEq] at hr
      obtain ⟨e1, e2, _, _, e3⟩ := hr
      have en := extract_len hf R.fit e2
      rw [← en] at R
      have R' : Run y i n := ⟨hp, fun m hm => by rw [C.same m hm]; exact R.all m hm, copy2_stop C R.stop, hf'⟩
      have hw := run_len R'
      have := (tok_word y i (by rw [h0]; exact hl)).res
      rw [hw, htext] at this
      rw [this, htext, e1, ← en, e3]
    · have hlf : letB (Lx.bt s j) = false := by simpa using hl
      by_cases hd : digB (Lx.bt s j) = true
      · have R := run_at s j (dig_wc hd)
        cases hn : numAt s j with
        | none =>
          exfalso
          unfold tokRes at hres
          rw [if_neg hl, if_pos hd, hn] at hres
          simp only [Prod.mk.injEq] at hres
          exact T.kind hres.1.symm
        | some nv =>
          have hr := (tok_num s j hs hd nv hn).res
          rw [hres] at hr
          simp only [Prod.mk.injEq] at hr
          obtain ⟨e1, e2, _, _, e3⟩ := hr
          have el := num_len hs hd hn
          have en : n = nv.1 := extract_len hf (tok_num s j hs hd nv hn).fit e2
          rw [← el, ← en] at R
          have R' : Run y i n := ⟨hp, fun m hm => by rw [C.same m hm]; exact R.all m hm, copy2_stop C R.stop, hf'⟩
          obtain ⟨v, b, a1, a2⟩ := number_at s j n hs R (2 * n + 10) (by omega)
          obtain ⟨v', b', b1, b2⟩ := number_at y i n hy R' (2 * n + 10) (by omega)
          rw [htext, a1] at b1
          simp only [Option.some.injEq, Prod.mk.injEq] at b1
          obtain ⟨rfl, rfl⟩ := b1
          rw [hn] at a2
          have hbb : b = true ∧ upper (Lx.bt s (j + n)) = false ∧ nv = (n, v) := by
            split at a2
            · rename_i hq
              rw [Bool.and_eq_true] at hq
              exact ⟨hq.1, by simpa using hq.2, Option.some.inj a2⟩
            · cases a2
          have hu : upper (Lx.bt y (i + n)) = false := by
            rcases copy2_next C with h | h | h <;> rw [h]
            · decide
            · decide
            · exact hbb.2.1
          rw [hbb.1, hu] at b2
          simp only [Bool.not_false, Bool.and_self, if_true] at b2
          have := (tok_num y i hy (by rw [h0]; exact hd) _ b2).res
          simp only at this
          rw [this, e1, e3, hbb.2.2]
      · have hdf : digB (Lx.bt s j) = false := by simpa using hd
        have hsg : signLen s j ≠ 0 := by
          intro h
          unfold tokRes at hres
          rw [if_neg hl, if_neg hd, if_pos h] at hres
          simp only [Prod.mk.injEq] at hres
          exact T.kind hres.1.symm
        have T' := tok_sign s j hj hlf hdf hsg
        have hr := T'.res
        rw [hres] at hr
        simp only [Prod.mk.injEq] at hr
        obtain ⟨e1, e2, _, _, e3⟩ := hr
        have en := extract_len hf T'.fit e2
        have hy' : signLen y i = n := by
          rw [en]
          unfold signLen at hsg en ⊢
          cases h2 : Lx.two s j
          · rw [h2] at hsg en
            simp only [Bool.false_eq_true, if_false] at hsg en ⊢
            have h1 : Lx.one (Lx.bt s j) = true := by
              cases h : Lx.one (Lx.bt s j)
              · rw [h] at hsg; simp at hsg
              · rfl
            rw [h1] at en
            simp only [if_true] at en
            have hy2 : Lx.two y i = false := by
              cases hty : Lx.two y i
              · rfl
              · exfalso
                have hfl := sign_flat y i (by omega) (by unfold signLen; rw [hty]; simp)
                unfold signLen at hfl
                rw [hty] at hfl
                simp only [if_true] at hfl
                rcases C.next with h | h | ⟨h3, h4, h5⟩
                · rw [en] at h; exact hfl.2 1 (by omega) h
                · omega
                · have e0 := C.same 0 (by omega)
                  rw [Nat.add_zero, Nat.add_zero] at e0
                  rw [en] at h3 h4 h5
                  have ht2 : y.extract i (i + 2) = s.extract j (j + 2) := by
                    have z1 : (y.extract i (i + 2)).size = 2 := by simp; omega
                    have z2 : (s.extract j (j + 2)).size = 2 := by simp; omega
                    refine bytes_eq (by omega) fun q hq => ?_
                    rw [bt_piece y i 2 q (by omega) (by omega), bt_piece s j 2 q (by omega) (by omega)]
                    rcases (by omega : q = 0 ∨ q = 1) with rfl | rfl
                    · exact e0
                    · exact h5
                  unfold Lx.two at hty h2
                  rw [e0, h5, ht2, decide_eq_true (by omega : i + 2 ≤ y.size)] at hty
                  rw [decide_eq_true (by omega : j + 2 ≤ s.size)] at h2
                  rw [hty] at h2; cases h2
            rw [hy2, h0, h1]; rfl
          · rw [h2] at en
            simp only [if_true] at en ⊢
            have hl2 : i + 2 ≤ y.size := by omega
            have e0 := C.same 0 (by omega)
            have e1' := C.same 1 (by omega)
            rw [Nat.add_zero, Nat.add_zero] at e0
            have htw : Lx.two y i = true := by
              unfold Lx.two at h2 ⊢
              rw [en] at htext
              rw [e0, e1', htext, decide_eq_true hl2]
              simp only [Bool.and_eq_true, decide_eq_true_eq] at h2 ⊢
              exact ⟨⟨⟨trivial, h2.1.1.2⟩, h2.1.2⟩, h2.2⟩
            rw [htw]; rfl
        have := (tok_sign y i (by omega) (by rw [h0]; exact hlf) (by rw [h0]; exact hdf) (by omega)).res
        rw [this, hy', e1, e3]
  · unfold isCom at hc ⊢
    rw [h0]
    rcases Nat.lt_or_ge 1 n with h | h
    · rw [C.same 1 h]; exact hc
    · have hn1 : n = 1 := by omega
      rw [hn1] at C
      rcases copy2_next C with h | h | h
      · rw [h, show ((10 : Int) == 47) = false by decide, Bool.and_false]
      · rw [h, show ((0 : Int) == 47) = false by decide, Bool.and_false]
      · rw [h]; exact hc

/-! ### Blanks and comments inside another text -/
theorem gap_le {s : ByteArray} {i j : Nat} (g : Gap s i j) : i ≤ j := by
  induction g with
  | nil => omega
  | blank => omega
  | com => omega
theorem comLen_of (y : ByteArray) (i c : Nat) (hi : i < y.size) (h10 : Lx.bt y i ≠ 10) (hm : ∀ m, m < c → Lx.bt y (i + m) ≠ 10) (hfit : i + c ≤ y.size) (he : i + c < y.size → Lx.bt y (i + c) = 10) : comLen y i = c := by
  obtain ⟨h1, h2⟩ := com_run y i hi h10
  obtain ⟨h3, h4⟩ := Lx.comLen_range y i hi h10
  rcases Nat.lt_trichotomy (comLen y i) c with h | h | h
  · exact absurd (h2 (by omega)) (hm _ h)
  · exact h
  · exact absurd (he (by omega)) (h1 _ h)
theorem betw_fuel (y : ByteArray) : ∀ (f f' i : Nat) (lc : Int × Int), y.size - i < f → y.size - i < f' → betw y f i lc = betw y f' i lc := by
  intro f; induction f with
  | zero => intro f' i lc h; omega
  | succ f ih =>
    intro f' i lc h h'
    cases f' with
    | zero => omega
    | succ f' =>
      rw [betw, betw]
      by_cases hi : i < y.size
      · rw [if_pos hi, if_pos hi]
        cases hb : blankB (Lx.bt y i) with
        | true => simp only [if_true]; exact ih _ _ _ (by omega) (by omega)
        | false =>
          simp only [Bool.false_eq_true, if_false]
          cases hc : isCom y i with
          | true =>
            simp only [if_true]
            have := Lx.comLen_range y i hi (by simpa using (Lx.blank_no _ hb).2.2.1)
            exact ih _ _ _ (by omega) (by omega)
          | false => rfl
      · rw [if_neg hi, if_neg hi]
theorem betw_gap (y : ByteArray) {i j : Nat} (g : Gap y i j) : ∀ (f f' : Nat) (lc : Int × Int), y.size - i < f → y.size - j < f' → betw y f i lc = betw y f' j (adv y i lc (j - i)) := by
  induction g with
  | nil i => intro f f' lc h h'; rw [Nat.sub_self]; exact betw_fuel y f f' i lc h h'
  | blank i j h hb g ih =>
    intro f f' lc h1 h2
    obtain ⟨f, rfl⟩ : ∃ f0, f = f0 + 1 := ⟨f - 1, by omega⟩
    have hle := gap_le g
    rw [betw, if_pos h, hb]
    simp only [if_true]
    rw [ih f f' _ (by omega) h2, adv_add]
    congr 2; omega
  | com i j h hb hc g ih =>
    intro f f' lc h1 h2
    obtain ⟨f, rfl⟩ : ∃ f0, f = f0 + 1 := ⟨f - 1, by omega⟩
    have hle := gap_le g
    have := Lx.comLen_range y i h (by simpa using (Lx.blank_no _ hb).2.2.1)
    rw [betw, if_pos h, hb, hc]
    simp only [Bool.false_eq_true, if_false, if_true]
    rw [ih f f' _ (by omega) h2, adv_add]
    congr 2; omega
theorem lex_gap (y : ByteArray) {i j : Nat} (g : Gap y i j) (f : Nat) (lc : Int × Int) (l : List Tk) : lexFrom y (f + 1) i lc l = lexFrom y (f + 1) j (adv y i lc (j - i)) l := by
  rw [lexFrom, lexFrom, betw_gap y g (y.size + 1) (y.size + 1) lc (by omega) (by omega)]
theorem lex_at (y : ByteArray) (hy : y.size < 9223372036854775000) (f q n : Nat) (lc : Int × Int) (l : List Tk) (kind num : Int) (hb : blankB (Lx.bt y q) = false) (hc : isCom y q = false) (T : TokOk y q n kind num) :
    lexFrom y (f + 1) q lc l = lexFrom y f (q + n) (adv y q lc n) (l ++ [⟨kind, y.extract q (q + n), lc.1, lc.2, num⟩]) := by
  have hp := T.pos
  have hf := T.fit
  obtain ⟨j, h1, h2, hg, h⟩ := lex_step y hy f q lc l (by omega)
  obtain rfl := gap_stop hg hb hc
  rcases h with h | ⟨_, _, _, ⟨h0, _⟩ | ⟨m, kind2, num2, T2, h⟩⟩
  · omega
  · rw [T.res] at h0; exact absurd h0 T.kind
  · have e := T2.res
    rw [T.res] at e
    simp only [Prod.mk.injEq] at e
    obtain ⟨e1, e2, _, _, e3⟩ := e
    have hm : n = m := extract_len T.fit T2.fit e2
    subst hm
    rw [h, Nat.sub_self, Nat.add_sub_cancel_left, e1, e3]
    rfl
theorem lex_app (s : ByteArray) (hs : s.size < 9223372036854775000) : ∀ (f i : Nat) (lc : Int × Int) (l : List Tk), i ≤ s.size → ∃ ts, (lexFrom s f i lc l).1 = l ++ ts := by
  intro f; induction f with
  | zero => intro i lc l h; exact ⟨[], (List.append_nil _).symm⟩
  | succ f ih =>
    intro i lc l hi
    obtain ⟨j, h1, h2, hg, h | ⟨_, _, _, ⟨_, h⟩ | ⟨n, kind, num, T, h⟩⟩⟩ := lex_step s hs f i lc l hi
    · exact ⟨[], by rw [h.2, List.append_nil]⟩
    · exact ⟨[], by rw [h, List.append_nil]⟩
    · obtain ⟨ts, e⟩ := ih (j + n) (adv s i lc (j + n - i)) (l ++ [⟨kind, s.extract j (j + n), (adv s i lc (j - i)).1, (adv s i lc (j - i)).2, num⟩]) T.fit
      exact ⟨_, by rw [h, e, List.append_assoc]⟩
/-- The text s stands in y from o on; behind it a line end, or nothing. -/
structure Emb (s y : ByteArray) (o : Nat) : Prop where
  fit : o + s.size ≤ y.size
  same : ∀ q, q < s.size → Lx.bt y (o + q) = Lx.bt s q
  next : Lx.bt y (o + s.size) = 10 ∨ o + s.size = y.size
theorem emb_copy {s y : ByteArray} {o : Nat} (E : Emb s y o) (j n : Nat) (hf : j + n ≤ s.size) : Copy2 s y j (o + j) n := by
  have h1 := E.fit
  refine ⟨by omega, fun q hq => by rw [Nat.add_assoc]; exact E.same (j + q) (by omega), ?_⟩
  rcases Nat.lt_or_ge (j + n) s.size with h | h
  · refine .inr (.inr ⟨h, by omega, ?_⟩)
    rw [Nat.add_assoc]; exact E.same _ h
  · have : j + n = s.size := by omega
    rw [Nat.add_assoc, this]
    rcases E.next with h | h
    · exact .inl h
    · exact .inr (.inl h)
def sh (L : Int) (lc : Int × Int) : Int × Int := (lc.1 + L, lc.2)
def shT (L : Int) (t : Tk) : Tk := ⟨t.kind, t.text, t.line + L, t.col, t.num⟩
theorem emb_adv {s y : ByteArray} {o : Nat} (E : Emb s y o) (L : Int) (i : Nat) (lc : Int × Int) : ∀ n, i + n ≤ s.size → adv y (o + i) (sh L lc) n = sh L (adv s i lc n) := by
  intro n; induction n with
  | zero => intro _; rfl
  | succ n ih =>
    intro h
    rw [adv, adv, ih (by omega), Nat.add_assoc, E.same (i + n) (by omega)]
    simp only [sh]
    split
    · simp only [Prod.mk.injEq, and_true]; omega
    · rfl
theorem emb_gap {s y : ByteArray} {o : Nat} (E : Emb s y o) {i j : Nat} (g : Gap s i j) : Gap y (o + i) (o + j) := by
  have hfit := E.fit
  induction g with
  | nil i => exact .nil _
  | blank i j h hb g ih => exact .blank _ _ (by omega) (by rw [E.same i h]; exact hb) (by rw [Nat.add_assoc]; exact ih)
  | com i j h hb hc g ih =>
    have h10 : Lx.bt s i ≠ 10 := by simpa using (Lx.blank_no _ hb).2.2.1
    obtain ⟨c1, c2⟩ := Lx.comLen_range s i h h10
    obtain ⟨r1, r2⟩ := com_run s i h h10
    have hcl : comLen y (o + i) = comLen s i := by
      refine comLen_of y (o + i) (comLen s i) (by omega) (by rw [E.same i h]; exact h10) (fun m hm => by rw [Nat.add_assoc, E.same (i + m) (by omega)]; exact r1 m hm) (by omega) (fun hlt => ?_)
      rcases Nat.lt_or_ge (i + comLen s i) s.size with h' | h'
      · rw [Nat.add_assoc, E.same _ h']; exact r2 h'
      · have e : i + comLen s i = s.size := by omega
        rw [Nat.add_assoc, e]
        rcases E.next with h2 | h2
        · exact h2
        · omega
    refine .com _ _ (by omega) (by rw [E.same i h]; exact hb) ?_ (by rw [hcl, Nat.add_assoc]; exact ih)
    unfold isCom at hc ⊢
    rw [Bool.and_eq_true, beq_iff_eq, beq_iff_eq] at hc
    have hi1 : i + 1 < s.size := by
      rcases Nat.lt_or_ge (i + 1) s.size with h' | h'
      · exact h'
      · have := Lx.bt_out s (i + 1) h'; omega
    rw [E.same i h, Nat.add_assoc, E.same (i + 1) hi1, hc.1, hc.2]
    decide
/-- What is split in s is split so in y. -/
theorem emb_lex {s y : ByteArray} {o : Nat} (E : Emb s y o) (L : Int) (hs : s.size < 9223372036854775000) (hy : y.size < 9223372036854775000) : ∀ (f i : Nat) (lc : Int × Int) (l0 ts : List Tk), i ≤ s.size → s.size - i < f → lexFrom s f i lc l0 = (l0 ++ ts, none) →
    ∀ (G : Nat) (l : List Tk), y.size - (o + i) < G → ∃ G', y.size - (o + s.size) < G' ∧ lexFrom y G (o + i) (sh L lc) l = lexFrom y G' (o + s.size) (sh L (adv s i lc (s.size - i))) (l ++ ts.map (shT L)) := by
  have hfit := E.fit
  intro f; induction f with
  | zero => intro i lc l0 ts h1 h2; omega
  | succ f ih =>
    intro i lc l0 ts hi hf he G l hG
    obtain ⟨G, rfl⟩ : ∃ g, G = g + 1 := ⟨G - 1, by omega⟩
    obtain ⟨j, h1, h2, hg, h⟩ := lex_step s hs f i lc l0 hi
    have hgap := lex_gap y (emb_gap E hg) G (sh L lc) l
    rw [show o + j - (o + i) = j - i from by omega, emb_adv E L i lc (j - i) (by omega)] at hgap
    rcases h with ⟨rfl, h⟩ | ⟨hlt, hb, hc, ⟨_, h⟩ | ⟨n, kind, num, T, h⟩⟩
    · rw [he] at h
      have hts : ts = [] := by
        have := congrArg Prod.fst h
        exact List.append_right_eq_self.1 this
      subst hts
      exact ⟨G + 1, by omega, by rw [hgap, List.map_nil, List.append_nil]⟩
    · rw [he] at h; have := congrArg Prod.snd h; cases this
    · have hp := T.pos
      have hTf := T.fit
      obtain ⟨ts', e⟩ := lex_app s hs f (j + n) (adv s i lc (j + n - i)) (l0 ++ [⟨kind, s.extract j (j + n), (adv s i lc (j - i)).1, (adv s i lc (j - i)).2, num⟩]) hTf
      rw [← h, he] at e
      have e : l0 ++ ts = l0 ++ ([⟨kind, s.extract j (j + n), (adv s i lc (j - i)).1, (adv s i lc (j - i)).2, num⟩] ++ ts') := by rw [← List.append_assoc]; exact e
      have hts := List.append_cancel_left e
      rw [h] at he
      rw [hts, ← List.append_assoc] at he
      obtain ⟨T', hb', hc'⟩ := tok_copy2 hs hy T hb hc (emb_copy E j n hTf)
      have hat := lex_at y hy G (o + j) n (sh L (adv s i lc (j - i))) l kind num hb' hc' T'
      have hadd : adv s j (adv s i lc (j - i)) n = adv s i lc (j + n - i) := by
        have := adv_add s i lc (j - i) n
        rw [show i + (j - i) = j from by omega] at this
        rw [this]; congr 1; omega
      rw [emb_adv E L j _ n hTf, hadd, copy2_text (emb_copy E j n hTf) hTf, Nat.add_assoc] at hat
      obtain ⟨G', hG', hrun⟩ := ih (j + n) (adv s i lc (j + n - i)) _ ts' hTf (by omega) he G (l ++ [⟨kind, s.extract j (j + n), (sh L (adv s i lc (j - i))).1, (sh L (adv s i lc (j - i))).2, num⟩]) (by omega)
      refine ⟨G', hG', ?_⟩
      have hadd2 : adv s (j + n) (adv s i lc (j + n - i)) (s.size - (j + n)) = adv s i lc (s.size - i) := by
        have := adv_add s i lc (j + n - i) (s.size - (j + n))
        rw [show i + (j + n - i) = j + n from by omega] at this
        rw [this]; congr 1; omega
      rw [hgap, hat, hrun, hadd2, hts, List.map_append, List.append_assoc]
      rfl
/-! ### Two texts with a blank, a comment and a line end in between -/
abbrev midS : ByteArray := ⟨#[10, 32, 9, 47, 47, 32]⟩
abbrev nlS : ByteArray := ⟨#[10]⟩
def headS (a r : ByteArray) : ByteArray := ((a ++ midS) ++ r) ++ nlS
theorem midS_size : midS.size = 6 := rfl
theorem nlS_size : nlS.size = 1 := rfl
theorem headS_size (a r : ByteArray) : (headS a r).size = a.size + 7 + r.size := by
  unfold headS; rw [ByteArray.size_append, ByteArray.size_append, ByteArray.size_append, midS_size, nlS_size]; omega
structure Parts (a r b y : ByteArray) : Prop where
  size : y.size = a.size + 7 + r.size + b.size
  inA : ∀ q, q < a.size → Lx.bt y q = Lx.bt a q
  inM : ∀ q, q < 6 → Lx.bt y (a.size + q) = Lx.bt midS q
  inR : ∀ q, q < r.size → Lx.bt y (a.size + (6 + q)) = Lx.bt r q
  inN : Lx.bt y (a.size + (6 + r.size)) = 10
  inB : ∀ q, Lx.bt y (a.size + 7 + r.size + q) = Lx.bt b q
theorem parts_of (a r b : ByteArray) : Parts a r b (headS a r ++ b) := by
  have z1 : (a ++ midS).size = a.size + 6 := by rw [ByteArray.size_append, midS_size]
  have z2 : ((a ++ midS) ++ r).size = a.size + 6 + r.size := by rw [ByteArray.size_append, z1]
  have z3 := headS_size a r
  have h1 : ∀ q, q < a.size + 7 + r.size → Lx.bt (headS a r ++ b) q = Lx.bt (headS a r) q := fun q hq => bt_app_left _ _ q (by omega)
  have h2 : ∀ q, q < a.size + 6 + r.size → Lx.bt (headS a r) q = Lx.bt ((a ++ midS) ++ r) q := fun q hq => bt_app_left _ _ q (by omega)
  have h3 : ∀ q, q < a.size + 6 → Lx.bt ((a ++ midS) ++ r) q = Lx.bt (a ++ midS) q := fun q hq => bt_app_left _ _ q (by omega)
  refine ⟨by rw [ByteArray.size_append, z3], fun q hq => ?_, fun q hq => ?_, fun q hq => ?_, ?_, fun q => ?_⟩
  · rw [h1 q (by omega), h2 q (by omega), h3 q (by omega)]; exact bt_app_left _ _ q hq
  · rw [h1 _ (by omega), h2 _ (by omega), h3 _ (by omega)]; exact bt_app a midS q
  · rw [h1 _ (by omega), h2 _ (by omega)]
    have := bt_app (a ++ midS) r q
    rwa [z1, Nat.add_assoc] at this
  · rw [h1 _ (by omega)]
    have := bt_app ((a ++ midS) ++ r) nlS 0
    rw [z2] at this
    have e : a.size + (6 + r.size) = a.size + 6 + r.size + 0 := by omega
    rw [e]; exact this
  · have := bt_app (headS a r) b q
    rwa [z3] at this
theorem adv_same (s y : ByteArray) (lc : Int × Int) : ∀ n, (∀ q, q < n → Lx.bt y q = Lx.bt s q) → adv y 0 lc n = adv s 0 lc n := by
  intro n; induction n with
  | zero => intro _; rfl
  | succ n ih => intro h; rw [adv, adv, ih (fun q hq => h q (by omega)), Nat.zero_add, h n (by omega)]
/-- The place behind the head: the first column. -/
theorem head_end (a r b y : ByteArray) (P : Parts a r b y) : (adv y 0 (1, 1) (a.size + 7 + r.size)).2 = 1 := by
  rw [show a.size + 7 + r.size = (a.size + (6 + r.size)) + 1 from by omega, adv, Nat.zero_add, P.inN]
  rfl
theorem mid_gap (a r b y : ByteArray) (P : Parts a r b y) (hr : ∀ q, q < r.size → Lx.bt r q ≠ 10) : Gap y a.size (a.size + 7 + r.size) := by
  have hz := P.size
  have m0 := P.inM 0 (by omega)
  have m1 := P.inM 1 (by omega)
  have m2 := P.inM 2 (by omega)
  have m3 := P.inM 3 (by omega)
  have m4 := P.inM 4 (by omega)
  have m5 := P.inM 5 (by omega)
  have k0 : Lx.bt midS 0 = 10 := rfl
  have k1 : Lx.bt midS 1 = 32 := rfl
  have k2 : Lx.bt midS 2 = 9 := rfl
  have k3 : Lx.bt midS 3 = 47 := rfl
  have k4 : Lx.bt midS 4 = 47 := rfl
  have k5 : Lx.bt midS 5 = 32 := rfl
  rw [Nat.add_zero] at m0
  have b10 : blankB 10 = true := by decide
  have b32 : blankB 32 = true := by decide
  have b9 : blankB 9 = true := by decide
  have b47 : blankB 47 = false := by decide
  have hcom : comLen y (a.size + 3) = 3 + r.size := by
    refine comLen_of y (a.size + 3) (3 + r.size) (by omega) (by rw [m3, k3]; omega) (fun m hm => ?_) (by omega) (fun _ => ?_)
    · rcases (by omega : m = 0 ∨ m = 1 ∨ m = 2 ∨ 3 ≤ m) with h | h | h | h
      · subst h; rw [Nat.add_zero, m3, k3]; omega
      · subst h; rw [show a.size + 3 + 1 = a.size + 4 from by omega, m4, k4]; omega
      · subst h; rw [show a.size + 3 + 2 = a.size + 5 from by omega, m5, k5]; omega
      · obtain ⟨q, rfl⟩ : ∃ q, m = 3 + q := ⟨m - 3, by omega⟩
        rw [show a.size + 3 + (3 + q) = a.size + (6 + q) from by omega, P.inR q (by omega)]; exact hr q (by omega)
    · rw [show a.size + 3 + (3 + r.size) = a.size + (6 + r.size) from by omega]; exact P.inN
  refine .blank _ _ (by omega) (by rw [m0, k0]; exact b10) (.blank _ _ (by omega) (by rw [m1, k1]; exact b32) (.blank _ _ (by omega) (by rw [show a.size + 1 + 1 = a.size + 2 from by omega, m2, k2]; exact b9) ?_))
  rw [show a.size + 1 + 1 + 1 = a.size + 3 from by omega]
  refine .com _ _ (by omega) (by rw [m3, k3]; exact b47) ?_ ?_
  · unfold isCom; rw [m3, k3, show a.size + 3 + 1 = a.size + 4 from by omega, m4, k4]; decide
  · rw [hcom, show a.size + 3 + (3 + r.size) = a.size + (6 + r.size) from by omega]
    refine .blank _ _ (by omega) (by rw [P.inN]; exact b10) ?_
    rw [show a.size + (6 + r.size) + 1 = a.size + 7 + r.size from by omega]
    exact .nil _
theorem lex_parts (a r b : ByteArray) (ha : a.size ≤ 10000) (hb : b.size ≤ 10000) (hrs : r.size ≤ 10000) (hr : ∀ q, q < r.size → Lx.bt r q ≠ 10) (ts us : List Tk) (h1 : lexAll a = (ts, none)) (h2 : lexAll b = (us, none)) :
    lexAll (headS a r ++ b) = (ts ++ us.map (shT ((adv (headS a r) 0 (1, 1) (headS a r).size).1 - 1)), none) := by
  have P := parts_of a r b
  have hline : adv (headS a r ++ b) 0 (1, 1) (a.size + 7 + r.size) = adv (headS a r) 0 (1, 1) (headS a r).size := by
    rw [headS_size]; exact adv_same _ _ _ _ fun q hq => bt_app_left _ _ q (by rw [headS_size]; exact hq)
  rw [← hline]
  generalize headS a r ++ b = y at *
  have hz := P.size
  have EA : Emb a y 0 := ⟨by omega, fun q hq => by rw [Nat.zero_add]; exact P.inA q hq, .inl (by rw [Nat.zero_add]; have := P.inM 0 (by omega); rw [Nat.add_zero] at this; rw [this]; rfl)⟩
  have EB : Emb b y (a.size + 7 + r.size) := ⟨by omega, fun q _ => P.inB q, .inr (by omega)⟩
  have e1 : lexFrom a (a.size + 1) 0 (1, 1) [] = ([] ++ ts, none) := h1
  have e2 : lexFrom b (b.size + 1) 0 (1, 1) [] = ([] ++ us, none) := h2
  obtain ⟨G1, hG1, r1⟩ := emb_lex EA 0 (by omega) (by omega) (a.size + 1) 0 (1, 1) [] ts (by omega) (by omega) e1 (y.size + 1) [] (by omega)
  obtain ⟨G1, rfl⟩ : ∃ g, G1 = g + 1 := ⟨G1 - 1, by omega⟩
  have hm := lex_gap y (mid_gap a r b y P hr) G1
  have hadvA : adv a 0 (1, 1) a.size = adv y 0 (1, 1) a.size := (adv_same _ _ _ _ fun q hq => P.inA q hq).symm
  have hadd := adv_add y 0 (1, 1) a.size (7 + r.size)
  have hlc : adv y 0 (1, 1) (a.size + 7 + r.size) = sh ((adv y 0 (1, 1) (a.size + 7 + r.size)).1 - 1) (1, 1) := by
    have := head_end a r b y P
    unfold sh
    refine Prod.ext ?_ this
    simp only; omega
  obtain ⟨G2, hG2, r2⟩ := emb_lex EB ((adv y 0 (1, 1) (a.size + 7 + r.size)).1 - 1) (by omega) (by omega) (b.size + 1) 0 (1, 1) [] us (by omega) (by omega) e2 (G1 + 1) ([] ++ ts.map (shT 0)) (by omega)
  have hid : ts.map (shT 0) = ts := by
    have : (shT 0) = id := by funext t; cases t; simp [shT]
    rw [this, List.map_id]
  have hsh : ∀ lc : Int × Int, sh 0 lc = lc := fun lc => by unfold sh; rw [Int.add_zero]
  rw [hsh, Nat.zero_add, Nat.sub_zero, hsh, hadvA, Nat.zero_add] at r1
  have hstart : lexAll y = lexFrom y (y.size + 1) 0 (1, 1) [] := rfl
  rw [hstart, r1, hm, show a.size + 7 + r.size - a.size = 7 + r.size from by omega]
  rw [Nat.zero_add] at hadd
  rw [hadd, show a.size + (7 + r.size) = a.size + 7 + r.size from by omega]
  rw [Nat.add_zero (a.size + 7 + r.size), ← hlc] at r2
  rw [r2, show a.size + 7 + r.size + b.size = y.size from by omega, lex_end y (by omega), hid]
  rw [List.nil_append]
end Go.Proofs.YtgkhpecllhiidaaDoor.Q
