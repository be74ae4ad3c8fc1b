/- Plain laws of chapter 5: tokens that are joined are read again; where tokens stand. -/
import Derived.Test.YtgkhpecllhiidaaDoorPn
set_option linter.unusedVariables false
set_option linter.unusedSimpArgs false
namespace Go.Proofs.YtgkhpecllhiidaaDoor.Q
open Go.RowKit Go.Proofs.YtgkhpecllhiidaaDoorW.PrintWords Go.Proofs.YtgkhpecllhiidaaDoorW.PrintLast Go.Proofs.YtgkhpecllhiidaaDoorW.PrintMore
open Lx (letB digB wcB kindOf numAt wordLen wscan signLen adv betw comLen isCom blankB lexStep lexFrom lexAll toks Tk LexR)

/-! ### Lines and columns grow -/
def lexLt (a b : Int × Int) : Prop := a.1 < b.1 ∨ (a.1 = b.1 ∧ a.2 < b.2)
theorem lexLt_trans {a b c : Int × Int} (h : lexLt a b) (k : lexLt b c) : lexLt a c := by unfold lexLt at *; omega
theorem lexLt_ne {a b : Int × Int} (h : lexLt a b) : a ≠ b := by rintro rfl; unfold lexLt at h; omega
theorem adv_succ_lt (s : ByteArray) (i : Nat) (lc : Int × Int) (n : Nat) : lexLt (adv s i lc n) (adv s i lc (n + 1)) := by
  unfold lexLt
  rw [adv]
  split <;> simp <;> omega
theorem adv_lt (s : ByteArray) (i : Nat) (lc : Int × Int) : ∀ (d n : Nat), lexLt (adv s i lc n) (adv s i lc (n + d + 1)) := by
  intro d; induction d with
  | zero => intro n; exact adv_succ_lt s i lc n
  | succ d ih => intro n; exact lexLt_trans (ih n) (adv_succ_lt s i lc (n + d + 1))
theorem adv_ne (s : ByteArray) (i : Nat) (lc : Int × Int) (m n : Nat) (h : m < n) : adv s i lc m ≠ adv s i lc n := by
  obtain ⟨d, rfl⟩ : ∃ d, n = m + d + 1 := ⟨n - m - 1, by omega⟩
  exact lexLt_ne (adv_lt s i lc d m)
theorem adv_ge (s : ByteArray) (i : Nat) (lc : Int × Int) (h1 : 1 ≤ lc.1) (h2 : 1 ≤ lc.2) : ∀ n, 1 ≤ (adv s i lc n).1 ∧ 1 ≤ (adv s i lc n).2 := by
  intro n; induction n with
  | zero => exact ⟨h1, h2⟩
  | succ n ih => rw [adv]; split <;> (constructor <;> simp <;> omega)

/-! ### Where the tokens stand -/
inductive Chain (s : ByteArray) : Nat → List Tk → Prop
  | nil (i : Nat) : Chain s i []
  | cons (i j n : Nat) (kind num : Int) (ts : List Tk) (hij : i ≤ j) (T : TokOk s j n kind num) (hb : blankB (Lx.bt s j) = false) (hc : isCom s j = false) (hr : Chain s (j + n) ts) :
      Chain s i (⟨kind, s.extract j (j + n), (adv s 0 (1, 1) j).1, (adv s 0 (1, 1) j).2, num⟩ :: ts)
theorem adv_from (s : ByteArray) (i j : Nat) (h : i ≤ j) : adv s i (adv s 0 (1, 1) i) (j - i) = adv s 0 (1, 1) j := by
  have := adv_add s 0 (1, 1) i (j - i)
  rw [Nat.zero_add] at this
  rw [this]; congr 1; omega
theorem lex_chain (s : ByteArray) (hs : s.size < 9223372036854775000) : ∀ (f i : Nat) (l : List Tk), i ≤ s.size →
    (∃ ts, (lexFrom s f i (adv s 0 (1, 1) i) l) = (l ++ ts, none) ∧ Chain s i ts) ∨ ∃ l' j, lexFrom s f i (adv s 0 (1, 1) i) l = (l', some (adv s 0 (1, 1) j)) := by
  intro f; induction f with
  | zero => intro i l h; exact .inl ⟨[], by rw [List.append_nil]; rfl, .nil i⟩
  | succ f ih =>
    intro i l hi
    obtain ⟨j, h1, h2, hg, h⟩ := lex_step s hs f i (adv s 0 (1, 1) i) l hi
    rcases h with ⟨_, h⟩ | ⟨hlt, hb, hc, ⟨_, h⟩ | ⟨n, kind, num, T, h⟩⟩
    · exact .inl ⟨[], by rw [List.append_nil]; exact h, .nil i⟩
    · exact .inr ⟨l, j, by rw [h, adv_from s i j h1]⟩
    · rw [h, adv_from s i j h1, adv_from s i (j + n) (by omega)]
      rcases ih (j + n) (l ++ [⟨kind, s.extract j (j + n), (adv s 0 (1, 1) j).1, (adv s 0 (1, 1) j).2, num⟩]) T.fit with ⟨ts, e, hch⟩ | ⟨l', q, e⟩
      · exact .inl ⟨_, by rw [e, List.append_assoc]; rfl, .cons i j n kind num ts h1 T hb hc hch⟩
      · exact .inr ⟨l', q, e⟩

/-! ### A token's text, alone or with a blank behind it -/
/-- The bytes of y from i on are those of s from j on, n of them; then nothing, or a blank. -/
structure Copy (s y : ByteArray) (j i n : Nat) : Prop where
  fit : i + n ≤ y.size
  same : ∀ q, q < n → Lx.bt y (i + q) = Lx.bt s (j + q)
  next : Lx.bt y (i + n) = 32 ∨ i + n = y.size
theorem copy_next {s y : ByteArray} {j i n : Nat} (C : Copy s y j i n) : Lx.bt y (i + n) = 32 ∨ Lx.bt y (i + n) = 0 := by
  rcases C.next with h | h
  · exact .inl h
  · exact .inr (Lx.bt_out y _ (by omega))
theorem bytes_eq {x y : ByteArray} (hs : x.size = y.size) (h : ∀ q, q < x.size → Lx.bt x q = Lx.bt y q) : x = y := by
  refine ext_list (List.ext_getElem? fun q => ?_)
  have hx : x.data.toList.length = x.size := by simp
  have hy : y.data.toList.length = y.size := by simp
  rcases Nat.lt_or_ge q x.size with hq | hq
  · have := h q hq
    rw [Lx.bt_list, Lx.bt_list, List.getD_eq_getElem?_getD, List.getD_eq_getElem?_getD, List.getElem?_eq_getElem (by omega), List.getElem?_eq_getElem (by omega)] at this
    rw [List.getElem?_eq_getElem (by omega), List.getElem?_eq_getElem (by omega)]
    simp only [Option.getD_some] at this
    congr 1
    exact UInt8.toNat_inj.1 (by omega)
  · rw [List.getElem?_eq_none (by omega), List.getElem?_eq_none (by omega)]
theorem copy_text {s y : ByteArray} {j i n : Nat} (C : Copy s y j i n) (hf : j + n ≤ s.size) : y.extract i (i + n) = s.extract j (j + n) := by
  have h1 : (y.extract i (i + n)).size = n := by have := C.fit; simp; omega
  have h2 : (s.extract j (j + n)).size = n := by simp; omega
  refine bytes_eq (by omega) fun q hq => ?_
  rw [bt_piece y i n q C.fit (by omega), bt_piece s j n q hf (by omega)]
  exact C.same q (by omega)
theorem copy_stop {s y : ByteArray} {j i n : Nat} (C : Copy s y j i n) : wcB (Lx.bt y (i + n)) = false := by
  rcases copy_next C with h | h <;> rw [h] <;> decide
theorem run_len {y : ByteArray} {i n : Nat} (R : Run y i n) : wordLen y i = n := by
  have hp := R.pos
  have hf := R.fit
  unfold wordLen
  rw [Lx.wscan_of y (y.size + 1) (i + 1) (n - 1) (by omega) (fun m hm => by have := R.all (m + 1) (by omega); rwa [show i + (m + 1) = i + 1 + m from by omega] at this) (by have := R.stop; rwa [show i + 1 + (n - 1) = i + n from by omega])]
  omega
theorem extract_len {s : ByteArray} {j m n : Nat} (hm : j + m ≤ s.size) (hn : j + n ≤ s.size) (h : s.extract j (j + m) = s.extract j (j + n)) : m = n := by
  have := congrArg ByteArray.size h
  simp at this; omega
theorem tok_copy {s y : ByteArray} {j i n : Nat} {kind num : Int} (hs : s.size < 9223372036854775000) (hy : y.size < 9223372036854775000) (T : TokOk s j n kind num) (hb : blankB (Lx.bt s j) = false) (hc : isCom s j = false) (C : Copy s y j i n) :
    TokOk y i n kind num ∧ blankB (Lx.bt y i) = false ∧ isCom y i = false := by
  have hp := T.pos
  have hf := T.fit
  have hf' := C.fit
  have hj : j < s.size := by omega
  have h0 : Lx.bt y i = Lx.bt s j := by have := C.same 0 hp; rwa [Nat.add_zero, Nat.add_zero] at this
  have htext := copy_text C hf
  refine ⟨?_, by rw [h0]; exact hb, ?_⟩
  · have hres := T.res
    have hflat : ∀ m, m < n → Lx.bt y (i + m) ≠ 10 := fun m hm => by rw [C.same m hm]; exact T.flat m hm
    refine ⟨?_, T.kind, hp, hf', hflat⟩
    by_cases hl : letB (Lx.bt s j) = true
    · have R := run_at s j (by unfold wcB; rw [hl]; rfl)
      have hr := (tok_word s j hl).res
      rw [hres] at hr
      simp only [Prod.mk.injEq] at hr
      obtain ⟨e1, e2, _, _, e3⟩ := hr
      have en := extract_len hf R.fit e2
      rw [← en] at R
      have R' : Run y i n := ⟨hp, fun m hm => by rw [C.same m hm]; exact R.all m hm, copy_stop C, hf'⟩
      have hw := run_len R'
      have := (tok_word y i (by rw [h0]; exact hl)).res
      rw [hw, htext] at this
      rw [this, htext, e1, ← en, e3]
    · have hlf : letB (Lx.bt s j) = false := by simpa using hl
      by_cases hd : digB (Lx.bt s j) = true
      · have R := run_at s j (dig_wc hd)
        cases hn : numAt s j with
        | none =>
          exfalso
          unfold tokRes at hres
          rw [if_neg hl, if_pos hd, hn] at hres
          simp only [Prod.mk.injEq] at hres
          exact T.kind hres.1.symm
        | some nv =>
          have hr := (tok_num s j hs hd nv hn).res
          rw [hres] at hr
          simp only [Prod.mk.injEq] at hr
          obtain ⟨e1, e2, _, _, e3⟩ := hr
          have el := num_len hs hd hn
          have en : n = nv.1 := extract_len hf (tok_num s j hs hd nv hn).fit e2
          rw [← el, ← en] at R
          have R' : Run y i n := ⟨hp, fun m hm => by rw [C.same m hm]; exact R.all m hm, copy_stop C, hf'⟩
          obtain ⟨v, b, a1, a2⟩ := number_at s j n hs R (2 * n + 10) (by omega)
          obtain ⟨v', b', b1, b2⟩ := number_at y i n hy R' (2 * n + 10) (by omega)
          rw [htext, a1] at b1
          simp only [Option.some.injEq, Prod.mk.injEq] at b1
          obtain ⟨rfl, rfl⟩ := b1
          rw [hn] at a2
          have hbb : b = true ∧ nv = (n, v) := by
            split at a2
            · rename_i hq
              rw [Bool.and_eq_true] at hq
              exact ⟨hq.1, Option.some.inj a2⟩
            · cases a2
          have hu : upper (Lx.bt y (i + n)) = false := by rcases copy_next C with h | h <;> rw [h] <;> decide
          rw [hbb.1, hu] at b2
          simp only [Bool.not_false, Bool.and_self, if_true] at b2
          have := (tok_num y i hy (by rw [h0]; exact hd) _ b2).res
          simp only at this
          rw [this, e1, e3, hbb.2]
      · have hdf : digB (Lx.bt s j) = false := by simpa using hd
        have hsg : signLen s j ≠ 0 := by
          intro h
          unfold tokRes at hres
          rw [if_neg hl, if_neg hd, if_pos h] at hres
          simp only [Prod.mk.injEq] at hres
          exact T.kind hres.1.symm
        have T' := tok_sign s j hj hlf hdf hsg
        have hr := T'.res
        rw [hres] at hr
        simp only [Prod.mk.injEq] at hr
        obtain ⟨e1, e2, _, _, e3⟩ := hr
        have en := extract_len hf T'.fit e2
        have hy' : signLen y i = n := by
          rw [en]
          unfold signLen at hsg en ⊢
          cases h2 : Lx.two s j
          · rw [h2] at hsg en
            simp only [Bool.false_eq_true, if_false] at hsg en ⊢
            have h1 : Lx.one (Lx.bt s j) = true := by
              cases h : Lx.one (Lx.bt s j)
              · rw [h] at hsg; simp at hsg
              · rfl
            rw [h1] at en
            simp only [if_true] at en
            have hy2 : Lx.two y i = false := by
              unfold Lx.two
              rcases C.next with h | h
              · rw [en] at h; rw [h]; simp
              · have : ¬ (i + 2 ≤ y.size) := by omega
                rw [decide_eq_false this]; rfl
            rw [hy2, h0, h1]; rfl
          · rw [h2] at en
            simp only [if_true] at en ⊢
            have hl2 : i + 2 ≤ y.size := by omega
            have e0 := C.same 0 (by omega)
            have e1' := C.same 1 (by omega)
            rw [Nat.add_zero, Nat.add_zero] at e0
            have htw : Lx.two y i = true := by
              unfold Lx.two at h2 ⊢
              rw [en] at htext
              rw [e0, e1', htext, decide_eq_true hl2]
              simp only [Bool.and_eq_true, decide_eq_true_eq] at h2 ⊢
              exact ⟨⟨⟨trivial, h2.1.1.2⟩, h2.1.2⟩, h2.2⟩
            rw [htw]; rfl
        have := (tok_sign y i (by omega) (by rw [h0]; exact hlf) (by rw [h0]; exact hdf) (by omega)).res
        rw [this, hy', e1, e3]
  · unfold isCom at hc ⊢
    rw [h0]
    rcases Nat.lt_or_ge 1 n with h | h
    · rw [C.same 1 h]; exact hc
    · have hn1 : n = 1 := by omega
      have : (Lx.bt y (i + 1) == 47) = false := by
        rw [beq_eq_false_iff_ne]
        rw [hn1] at C
        rcases copy_next C with h | h <;> rw [h] <;> decide
      rw [this, Bool.and_false]
end Go.Proofs.YtgkhpecllhiidaaDoor.Q
