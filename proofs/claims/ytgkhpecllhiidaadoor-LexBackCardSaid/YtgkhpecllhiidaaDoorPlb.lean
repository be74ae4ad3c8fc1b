/- The plain law of LexBack. -/
import Derived.Test.YtgkhpecllhiidaaDoorPm
import Derived.Test.YtgkhpecllhiidaaDoorQxB
set_option linter.unusedVariables false
set_option linter.unusedSimpArgs false
namespace Go.Proofs.YtgkhpecllhiidaaDoor.Q
open Go.RowKit Go.Proofs.YtgkhpecllhiidaaDoorW.PrintWords Go.Proofs.YtgkhpecllhiidaaDoorW.PrintLast Go.Proofs.YtgkhpecllhiidaaDoorW.PrintMore
open Lx (letB digB wcB numAt adv isCom blankB lexFrom lexAll toks Tk LexR)

def key (t : Tk) : Int × ByteArray × Int := (t.kind, t.text, t.num)
abbrev tl (t : Tk) : List UInt8 := t.text.data.toList
theorem blank32 : blankB 32 = true := by decide
/-- One token of the joined text. -/
theorem relex_one (s y : ByteArray) (hs : s.size < 9223372036854775000) (hy : y.size < 9223372036854775000) (j n : Nat) (kind num : Int) (T : TokOk s j n kind num) (hb : blankB (Lx.bt s j) = false) (hc : isCom s j = false)
    (i i1 : Nat) (hi : i = i1 ∨ (i1 = i + 1 ∧ Lx.bt y i = 32)) (C : Copy s y j i1 n) (f : Nat) (lc : Int × Int) (acc : List Tk) :
    ∃ lc' t, lexFrom y (f + 1) i lc acc = lexFrom y f (i1 + n) lc' (acc ++ [t]) ∧ key t = (kind, s.extract j (j + n), num) := by
  obtain ⟨T', hb', hc'⟩ := tok_copy hs hy T hb hc C
  have hfit := C.fit
  have hp := T.pos
  have htext := copy_text C T.fit
  obtain ⟨q, h1, h2, hg, h⟩ := lex_step y hy f i lc acc (by omega)
  have hq : q = i1 ∨ (q = i ∧ Lx.bt y i = 32) := by
    rcases hi with rfl | ⟨rfl, h32⟩
    · exact .inl (gap_stop hg hb' hc')
    · cases hg with
      | nil => exact .inr ⟨rfl, h32⟩
      | blank _ _ _ _ g => exact .inl (gap_stop g hb' hc')
      | com _ _ _ h => rw [h32, blank32] at h; cases h
  rcases hq with rfl | ⟨rfl, h32⟩
  · rcases h with ⟨h, _⟩ | ⟨_, _, _, ⟨h0, _⟩ | ⟨m, kind2, num2, T2, h⟩⟩
    · omega
    · rw [T'.res] at h0; exact absurd h0 T'.kind
    · have e := T2.res
      rw [T'.res] at e
      simp only [Prod.mk.injEq] at e
      obtain ⟨e1, e2, _, _, e3⟩ := e
      have hm : n = m := extract_len T'.fit T2.fit e2
      subst hm
      refine ⟨_, _, h, ?_⟩
      unfold key
      simp only [htext, e1, e3]
  · rcases h with ⟨h, _⟩ | ⟨_, h, _⟩
    · rcases hi with rfl | ⟨rfl, _⟩ <;> omega
    · rw [h32, blank32] at h; cases h
theorem copy_of_drop (s y : ByteArray) (j i n : Nat) (hf : j + n ≤ s.size) (hn : 0 < n) (r : List UInt8) (h : y.data.toList.drop i = (s.extract j (j + n)).data.toList ++ r) (hr : r = [] ∨ ∃ r', r = 32 :: r') : Copy s y j i n ∧ y.data.toList.drop (i + n) = r := by
  have hl : (s.extract j (j + n)).data.toList.length = n := by simp; omega
  have hlen := congrArg List.length h
  rw [List.length_drop, List.length_append, hl] at hlen
  have hyl : y.data.toList.length = y.size := by simp
  have hdrop : y.data.toList.drop (i + n) = r := by
    rw [← List.drop_drop, h, List.drop_left' hl]
  have hin : i + n ≤ y.size := by omega
  refine ⟨⟨?_, fun q hq => ?_, ?_⟩, hdrop⟩
  · exact hin
  · rw [← bt_piece s j n q hf hq, Lx.bt_list, Lx.bt_list, List.getD_eq_getElem?_getD, List.getD_eq_getElem?_getD, ← List.getElem?_drop, h, List.getElem?_append_left (by omega)]
  · rcases hr with rfl | ⟨r', rfl⟩
    · right
      have := congrArg List.length hdrop
      simp at this
      simp at hlen
      omega
    · left
      exact bt_head hdrop
theorem tail_cons (ts : List Tk) : Lib.joinTail [32] (ts.map tl) = [] ∨ ∃ r, Lib.joinTail [32] (ts.map tl) = 32 :: r := by
  cases ts with
  | nil => exact .inl rfl
  | cons t ts => exact .inr ⟨_, rfl⟩
/-- What is joined behind a first token is read again. -/
theorem relex_tail (s y : ByteArray) (hs : s.size < 9223372036854775000) (hy : y.size < 9223372036854775000) : ∀ (ts : List Tk) (i0 i f : Nat) (lc : Int × Int) (acc : List Tk), Chain s i0 ts → y.size - i < f → i ≤ y.size → y.data.toList.drop i = Lib.joinTail [32] (ts.map tl) →
    ∃ ts', lexFrom y f i lc acc = (acc ++ ts', none) ∧ ts'.map key = ts.map key := by
  intro ts; induction ts with
  | nil =>
    intro i0 i f lc acc hch hf hi hd
    have : i = y.size := by
      have := congrArg List.length hd
      simp [Lib.joinTail] at this
      omega
    subst this
    exact ⟨[], by rw [lex_end y hy, List.append_nil], rfl⟩
  | cons t ts ih =>
    intro i0 i f lc acc hch hf hi hd
    cases hch with
    | cons _ j n kind num _ hij T hb hc hr =>
      have hd' : y.data.toList.drop i = 32 :: ((s.extract j (j + n)).data.toList ++ Lib.joinTail [32] (ts.map tl)) := by
        rw [hd]; rfl
      have h32 : Lx.bt y i = 32 := bt_head hd'
      have hd1 := drop_succ hd'
      obtain ⟨C, hd2⟩ := copy_of_drop s y j (i + 1) n T.fit T.pos _ hd1 (tail_cons ts)
      have hfit := C.fit
      have hp := T.pos
      obtain ⟨f, rfl⟩ : ∃ f', f = f' + 1 := ⟨f - 1, by omega⟩
      obtain ⟨lc', t', e, hk⟩ := relex_one s y hs hy j n kind num T hb hc i (i + 1) (.inr ⟨rfl, h32⟩) C f lc acc
      obtain ⟨ts', e2, hk2⟩ := ih (j + n) (i + 1 + n) f lc' (acc ++ [t']) hr (by omega) hfit hd2
      refine ⟨t' :: ts', by rw [e, e2, List.append_assoc]; rfl, ?_⟩
      rw [List.map_cons, List.map_cons, hk2, hk]
      rfl
theorem relex (s : ByteArray) (hs : s.size < 9223372036854775000) (ts : List Tk) (hch : Chain s 0 ts) (y : ByteArray) (hy : y.size < 9223372036854775000) (e : y.data.toList = Lib.join (ts.map tl) [32]) :
    ∃ ts', lexAll y = (ts', none) ∧ ts'.map key = ts.map key := by
  cases ts with
  | nil =>
    have h0 : y.size = 0 := by
      have := congrArg List.length e
      simpa [Lib.join_nil] using this
    refine ⟨[], ?_, rfl⟩
    unfold lexAll
    have := lex_end y hy (y.size + 1) (1, 1) []
    rw [h0] at this ⊢
    exact this
  | cons t ts =>
    cases hch with
    | cons _ j n kind num _ hij T hb hc hr =>
      rw [List.map_cons, Lib.join_cons] at e
      obtain ⟨C, hd2⟩ := copy_of_drop s y j 0 n T.fit T.pos _ (by rw [List.drop_zero]; exact e) (tail_cons ts)
      have hfit := C.fit
      have hp := T.pos
      obtain ⟨lc', t', e1, hk⟩ := relex_one s y hs hy j n kind num T hb hc 0 0 (.inl rfl) C y.size (1, 1) []
      obtain ⟨ts', e2, hk2⟩ := relex_tail s y hs hy ts (j + n) (0 + n) y.size lc' ([] ++ [t']) hr (by omega) hfit hd2
      refine ⟨t' :: ts', ?_, ?_⟩
      · unfold lexAll; rw [e1, e2]; rfl
      · rw [List.map_cons, List.map_cons, hk2, hk]; rfl

/-! ### The law's loops -/
theorem clamp_nat (s : ByteArray) (i : Nat) (h : i ≤ s.size) : Lx.clampI s (i : Int) = i := by unfold Lx.clampI; omega
theorem lex_Line_at (s : ByteArray) (hs : s.size ≤ 65536) (i : Nat) (h : i ≤ s.size) : lex_Line.f s (i : Int) = some (adv s 0 (1, 1) i) := by
  unfold lex_Line.f; rw [if_pos (by omega), clamp_nat s i h]
theorem lb_pos (s : ByteArray) (hs : s.size ≤ 65536) (L M : List S59) (idx : Nat) (hx : idx < L.length) (hL : L.length ≤ 65536) (j n : Nat) (hn : 0 < n) (hf : j + n ≤ s.size) (h1 : Aside0 ((L[idx]).f1 = s.extract j (j + n))) (h2 : Aside0 ((L[idx]).f2 = (adv s 0 (1, 1) j).1)) (h3 : Aside0 ((L[idx]).f3 = (adv s 0 (1, 1) j).2)) :
    ∀ (d k a : Nat), a + d = j → lamplighterlaw05_LexBack.l1 (k + d + 1) s L M (a : Int) (idx : Int) = lamplighterlaw05_LexBack.l0 k s L M ((j + n : Nat) : Int) ((idx + 1 : Nat) : Int) := by
  have hsz : (s.extract j (j + n)).size = n := by simp; omega
  intro d; induction d with
  | zero =>
    intro k a ha
    obtain rfl : a = j := by omega
    have hw : wrap64 ((a : Int) + (n : Int)) = ((a + n : Nat) : Int) := by rw [w64a _ (by omega)]; push_cast; rfl
    rw [lamplighterlaw05_LexBack.l1, if_pos (by omega), lex_Line_at s hs a (by omega), Option.bind_some, if_pos (by omega), if_pos (by omega), rd_at L idx hx, h2.out, h3.out, h1.out, if_pos rfl, if_pos rfl, hsz, hw, if_neg (by omega), if_pos (by omega), if_pos (by omega), if_pos (by omega), Int.toNat_natCast, Int.toNat_natCast, if_pos rfl, w64 idx (by omega)]
  | succ d ih =>
    intro k a ha
    have hne : adv s 0 (1, 1) a ≠ adv s 0 (1, 1) j := adv_ne s 0 (1, 1) a j (by omega)
    have hgo := ih k (a + 1) (by omega)
    rw [show k + (d + 1) + 1 = (k + d + 1) + 1 from by omega, lamplighterlaw05_LexBack.l1, if_pos (by omega), lex_Line_at s hs a (by omega), Option.bind_some, if_pos (by omega), if_pos (by omega), rd_at L idx hx, h2.out, h3.out, w64 a (by omega)]
    by_cases e1 : (adv s 0 (1, 1) a).1 = (adv s 0 (1, 1) j).1
    · have e2 : (adv s 0 (1, 1) a).2 ≠ (adv s 0 (1, 1) j).2 := fun e2 => hne (Prod.ext e1 e2)
      rw [if_pos e1, if_neg e2]; exact hgo
    · rw [if_neg e1]; exact hgo
theorem key_at {ts ts' : List Tk} (h : ts'.map key = ts.map key) (i : Nat) (hi : i < ts.length) (hi' : i < ts'.length) : (ts'[i]).kind = (ts[i]).kind ∧ (ts'[i]).text = (ts[i]).text ∧ (ts'[i]).num = (ts[i]).num := by
  have := congrArg (fun l => l[i]?) h
  simp only [List.getElem?_map, List.getElem?_eq_getElem hi, List.getElem?_eq_getElem hi', Option.map_some, Option.some.injEq] at this
  unfold key at this
  simp only [Prod.mk.injEq] at this
  exact this
theorem lb_loop (s : ByteArray) (hs : s.size ≤ 65536) (ts ts' : List Tk) (hk : ts'.map key = ts.map key) (hL : ts.length ≤ 65536) : ∀ (n idx a k : Nat), ts.length - idx = n → idx ≤ ts.length → Chain s a (ts.drop idx) → a ≤ s.size → 3 * n + (s.size - a) + 3 < k →
    lamplighterlaw05_LexBack.l0 k s (ts.map s59) (ts'.map s59) (a : Int) (idx : Int) = some true := by
  have hlen : ts'.length = ts.length := by have := congrArg List.length hk; simpa using this
  intro n; induction n with
  | zero =>
    intro idx a k h1 h2 hch ha hk'
    cases k with
    | zero => omega
    | succ k => rw [lamplighterlaw05_LexBack.l0, if_neg (by rw [List.length_map]; omega)]
  | succ n ih =>
    intro idx a k h1 h2 hch ha hk'
    have hx : idx < ts.length := by omega
    have hx' : idx < ts'.length := by omega
    rw [List.drop_eq_getElem_cons hx] at hch
    generalize htt : ts[idx] = t at hch
    obtain ⟨k1, k2, k3⟩ := key_at hk idx hx hx'
    cases hch with
    | cons _ j m kind num _ hij T hb hc hr =>
      have hp := T.pos
      have hf := T.fit
      have hxL : idx < (ts.map s59).length := by rw [List.length_map]; exact hx
      have hxM : idx < (ts'.map s59).length := by rw [List.length_map]; exact hx'
      have eL : (ts.map s59)[idx] = s59 ⟨kind, s.extract j (j + m), (adv s 0 (1, 1) j).1, (adv s 0 (1, 1) j).2, num⟩ := by rw [List.getElem_map, htt]
      have eM : (ts'.map s59)[idx] = s59 ts'[idx] := by rw [List.getElem_map]
      rw [htt] at k1 k2 k3
      obtain ⟨q, rfl⟩ : ∃ q, k = q + (j - a) + 1 + 1 + 1 := ⟨k - (j - a) - 3, by omega⟩
      have hne : ((s.extract j (j + m)).toList == ([] : List UInt8)) = false := by
        rw [beq_eq_false_iff_ne]
        intro e
        have := Lx.blen (s.extract j (j + m))
        rw [e] at this
        simp at this; omega
      have f0 : (s59 ts'[idx]).f0 = (s59 (⟨kind, s.extract j (j + m), (adv s 0 (1, 1) j).1, (adv s 0 (1, 1) j).2, num⟩ : Tk)).f0 := k1
      have f1 : (s59 ts'[idx]).f1 = (s59 (⟨kind, s.extract j (j + m), (adv s 0 (1, 1) j).1, (adv s 0 (1, 1) j).2, num⟩ : Tk)).f1 := k2
      have f4 : (s59 ts'[idx]).f4 = (s59 (⟨kind, s.extract j (j + m), (adv s 0 (1, 1) j).1, (adv s 0 (1, 1) j).2, num⟩ : Tk)).f4 := k3
      have hj : ∀ k, lamplighterlaw05_LexBack.j2 (k + 1) s (ts.map s59) (ts'.map s59) (a : Int) (idx : Int) false = lamplighterlaw05_LexBack.l1 k s (ts.map s59) (ts'.map s59) (a : Int) (idx : Int) := fun k => by rw [lamplighterlaw05_LexBack.j2, if_neg (by simp)]
      rw [lamplighterlaw05_LexBack.l0, if_pos (by omega), if_pos (by omega), if_pos (by omega), rd_at _ idx hxL, rd_at _ idx hxM, eL, eM, if_pos f0, if_pos (by rw [f1]), if_pos f4]
      have hne' : (((s59 (⟨kind, s.extract j (j + m), (adv s 0 (1, 1) j).1, (adv s 0 (1, 1) j).2, num⟩ : Tk)).f1).toList == ([] : List UInt8)) = false := hne
      rw [hne', hj, lb_pos s hs _ _ idx hxL (by rw [List.length_map]; omega) j m hp hf ⟨by rw [eL]; rfl⟩ ⟨by rw [eL]; rfl⟩ ⟨by rw [eL]; rfl⟩ (j - a) q a (by omega)]
      exact ih (idx + 1) (j + m) q (by omega) (by omega) hr hf (by omega)
theorem lexBack_pure : lamplighterlaw05_LexBack.Pure := by
  intro s _
  refine ⟨20000, ?_⟩
  unfold lamplighterlaw05_LexBack.f
  rw [lives_any 20000 (by omega), Option.bind_some, if_pos rfl]
  by_cases h1 : (s.size : Int) > 2000
  · rw [if_pos h1]
  · rw [if_neg h1]
    have hs : s.size ≤ 65536 := by omega
    have hsz := toks_size s (by omega)
    have e1 : lex_All.f s = some (outOf (lexAll s)) := by unfold lex_All.f; rw [if_pos (by omega)]; rfl
    rw [e1, Option.bind_some]
    rcases lex_chain s (by omega) (s.size + 1) 0 [] (by omega) with ⟨ts, e, hch⟩ | ⟨l', j, e⟩
    · have e : lexAll s = (ts, none) := e
      have ht : toks (lexAll s) = ts := by rw [e]; rfl
      rw [ht] at hsz
      rw [e, out_end]
      have hL : (ts.map s59).length ≤ 1000000 := by rw [List.length_map]; omega
      have eT : (textsOf (ts.map s59)).map (·.size) = ts.map fun t => t.text.size := by unfold textsOf; rw [List.map_map, List.map_map]; rfl
      have hT : ((textsOf (ts.map s59)).map (·.size)).sum ≤ 1000000 := by rw [eT]; have := hsz.2; unfold textSum at this; omega
      have eJ := lexJoin_eq _ hL hT 20000 (by rw [List.length_map]; omega)
      have hJ : (joinB (textsOf (ts.map s59)) ⟨#[32]⟩).size ≤ 4000 := by
        have a1 := joinB_size (textsOf (ts.map s59))
        have a2 : (textsOf (ts.map s59)).length = ts.length := by unfold textsOf; rw [List.length_map, List.length_map]
        rw [eT] at a1
        have := hsz.2; unfold textSum at this; omega
      have eY : (joinB (textsOf (ts.map s59)) ⟨#[32]⟩).data.toList = Lib.join (ts.map tl) [32] := by
        unfold joinB textsOf
        rw [List.map_map, List.map_map]; rfl
      obtain ⟨ts', e', hk⟩ := relex s (by omega) ts hch _ (by omega) eY
      have e2 : lex_All.f (joinB (textsOf (ts.map s59)) ⟨#[32]⟩) = some (ts'.map s59, 0, 0, 0) := by unfold lex_All.f; rw [if_pos (by omega), e']; rfl
      have hlen : ts'.length = ts.length := by have := congrArg List.length hk; simpa using this
      have hbne : (((ts'.map s59).length : Int) != ((ts.map s59).length : Int)) = false := by rw [List.length_map, List.length_map, hlen]; simp
      rw [if_neg (by simp), eJ, Option.bind_some, e2, Option.bind_some, if_neg (by simp)]
      simp only
      rw [hbne, lamplighterlaw05_LexBack.j0, if_neg (by simp)]
      exact lb_loop s hs ts ts' hk (by omega) ts.length 0 0 19999 (by omega) (by omega) hch (by omega) (by omega)
    · have e : lexAll s = (l', some (adv s 0 (1, 1) j)) := e
      have hg := adv_ge s 0 (1, 1) (by simp) (by simp) j
      rw [e, out_fault]
      rw [if_pos (by simp), if_pos (by simp), if_pos (by simp), if_pos (by simp only; omega)]
      simp only
      rw [decide_eq_true hg.2]
end Go.Proofs.YtgkhpecllhiidaaDoor.Q
