/- Parse: a text in brackets is split into the brackets and what it is split into alone. -/
import Derived.Test.YtnjnadlgndjnbaaDoorZGp
import Derived.Test.YtnjnadlgndjnbaaDoorZFb
set_option linter.unusedVariables false
set_option linter.unusedSimpArgs false
namespace Go.Proofs.YtnjnadlgndjnbaaDoor.Fp
open Go.RowKit Go.Proofs.YtnjnadlgndjnbaaDoor.Q
open Lx (letB digB wcB kindOf wordLen wscan signLen adv betw comLen isCom blankB lexStep lexFrom lexAll toks Tk LexR)
def key (t : Tk) : Key := (t.kind, t.text.data.toList, t.num)
def keys (l : List Tk) : List Key := l.map key
theorem keys_app (a b : List Tk) : keys (a ++ b) = keys a ++ keys b := List.map_append
theorem betw_lc (s : ByteArray) : ∀ (f i : Nat) (lc lc' : Int × Int), (betw s f i lc).1 = (betw s f i lc').1 ∧ (betw s f i lc).2.1 = (betw s f i lc').2.1
  | 0, i, lc, lc' => ⟨rfl, rfl⟩
  | f + 1, i, lc, lc' => by
    unfold betw
    split
    · split
      · exact betw_lc s f _ _ _
      · split
        · exact betw_lc s f _ _ _
        · exact ⟨rfl, rfl⟩
    · exact ⟨rfl, rfl⟩
theorem lex_keys (s : ByteArray) : ∀ (f i : Nat) (lc lc' : Int × Int) (l l' : List Tk), keys l = keys l' → keys (lexFrom s f i lc l).1 = keys (lexFrom s f i lc' l').1 ∧ (lexFrom s f i lc l).2.isSome = (lexFrom s f i lc' l').2.isSome
  | 0, _, _, _, _, _, h => ⟨h, rfl⟩
  | f + 1, i, lc, lc', l, l', h => by
    obtain ⟨b1, b2⟩ := betw_lc s (s.size + 1) i lc lc'
    rw [lexFrom, lexFrom]
    generalize betw s (s.size + 1) i lc = r at *
    generalize betw s (s.size + 1) i lc' = r' at *
    obtain ⟨st, j, p⟩ := r
    obtain ⟨st', j', p'⟩ := r'
    simp only at b1 b2
    subst b1 b2
    unfold lexStep
    simp only
    have hk : ∀ t t' : Tk, key t = key t' → keys (l ++ [t]) = keys (l' ++ [t']) := fun t t' e => by rw [keys_app, keys_app, h]; show _ ++ [key t] = _ ++ [key t']; rw [e]
    split
    · exact ⟨h, rfl⟩
    · split
      · exact lex_keys s f _ _ _ _ _ (hk _ _ rfl)
      · split
        · split
          · exact ⟨h, rfl⟩
          · exact lex_keys s f _ _ _ _ _ (hk _ _ rfl)
        · split
          · exact ⟨h, rfl⟩
          · exact lex_keys s f _ _ _ _ _ (hk _ _ rfl)
theorem drop_at {y : ByteArray} {q : Nat} (hq : q < y.size) : ∃ c0 r, y.data.toList.drop q = c0 :: r ∧ Lx.bt y q = (c0.toNat : Int) := by
  have hl : q < y.data.toList.length := by simpa using hq
  refine ⟨_, _, List.drop_eq_getElem_cons hl, bt_head (List.drop_eq_getElem_cons hl)⟩
theorem u8_of {c : UInt8} {n : Nat} (hn : n < 256) (h : (c.toNat : Int) = (n : Int)) : c = UInt8.ofNat n := by
  have : c.toNat = n := by omega
  rw [← this]; simp
theorem text_one {y : ByteArray} {q n : Nat} (hq : q < y.size) (hn : n < 256) (h : Lx.bt y q = (n : Int)) : (y.extract q (q + 1)).data.toList = [UInt8.ofNat n] := by
  obtain ⟨c0, r, hd, hb⟩ := drop_at hq
  rw [extract_list, hd, show q + 1 - q = 1 by omega, List.take_succ_cons, List.take_zero, u8_of hn (hb.symm.trans h)]
def Sole (y : ByteArray) (q : Nat) : Prop := Lx.bt y q = 40 ∨ Lx.bt y q = 41 ∨ Lx.bt y q = 91 ∨ Lx.bt y q = 93 ∨ (Lx.bt y q = 33 ∧ Lx.bt y (q + 1) = 40)
theorem two_no {y : ByteArray} {q : Nat} (hq : q < y.size) (h : Sole y q) : Lx.two y q = false := by
  obtain ⟨c0, r, hd, hb⟩ := drop_at hq
  cases r with
  | nil =>
    unfold Lx.two
    have h3 : y.data.toList.length = y.size := by simp
    have : y.data.toList.length = q + 1 := by have h4 := congrArg List.length hd; rw [List.length_drop, List.length_singleton] at h4; omega
    have h2 : y.data.toList.length = y.size := by simp
    have : decide (q + 2 ≤ y.size) = false := decide_eq_false (by omega)
    rw [this]; rfl
  | cons c1 r =>
    rw [two_eq y q c0 c1 r hd]
    have h1 : Lx.bt y (q + 1) = (c1.toNat : Int) := bt_head (drop_succ hd)
    rcases h with h | h | h | h | ⟨h, h'⟩
    · have := u8_of (n := 40) (by omega) (hb.symm.trans h); subst this; rfl
    · have := u8_of (n := 41) (by omega) (hb.symm.trans h); subst this; rfl
    · have := u8_of (n := 91) (by omega) (hb.symm.trans h); subst this; rfl
    · have := u8_of (n := 93) (by omega) (hb.symm.trans h); subst this; rfl
    · have := u8_of (n := 33) (by omega) (hb.symm.trans h); subst this
      have := u8_of (n := 40) (by omega) (h1.symm.trans h'); subst this; rfl
theorem sole_tok {y : ByteArray} {q : Nat} (hq : q < y.size) (h : Sole y q) : TokOk y q 1 4 0 ∧ blankB (Lx.bt y q) = false ∧ isCom y q = false := by
  have h2 := two_no hq h
  have hc : ∀ c : Int, c = 40 ∨ c = 41 ∨ c = 91 ∨ c = 93 ∨ c = 33 → letB c = false ∧ digB c = false ∧ Lx.one c = true ∧ blankB c = false ∧ (c == 47) = false := by
    intro c hc
    rcases hc with rfl | rfl | rfl | rfl | rfl <;> decide
  have h3 : Lx.bt y q = 40 ∨ Lx.bt y q = 41 ∨ Lx.bt y q = 91 ∨ Lx.bt y q = 93 ∨ Lx.bt y q = 33 := by
    rcases h with h | h | h | h | ⟨h, _⟩ <;> simp [h]
  obtain ⟨a1, a2, a3, a4, a5⟩ := hc _ h3
  have hs : signLen y q = 1 := by unfold signLen; rw [h2, a3]; rfl
  have T := tok_sign y q hq a1 a2 (by rw [hs]; omega)
  rw [hs] at T
  exact ⟨T, a4, by unfold isCom; rw [a5]; rfl⟩
theorem lex_sole (y : ByteArray) (hy : y.size < 9223372036854775000) {q n : Nat} (hq : q < y.size) (h : Sole y q) (hn : n < 256) (hb : Lx.bt y q = (n : Int)) (f : Nat) (lc : Int × Int) (l : List Tk) :
    ∃ lc' t, lexFrom y (f + 1) q lc l = lexFrom y f (q + 1) lc' (l ++ [t]) ∧ key t = (4, [UInt8.ofNat n], 0) := by
  obtain ⟨T, h1, h2⟩ := sole_tok hq h
  refine ⟨_, _, lex_at y hy f q 1 lc l 4 0 h1 h2 T, ?_⟩
  show ((4 : Int), (y.extract q (q + 1)).data.toList, (0 : Int)) = _
  rw [text_one hq hn hb]
theorem lex_word (y : ByteArray) (hy : y.size < 9223372036854775000) {q n : Nat} (hq : q + n ≤ y.size) (hp : 0 < n) (hl : letB (Lx.bt y q) = true) (ha : ∀ m, m < n → wcB (Lx.bt y (q + m)) = true) (hs : wcB (Lx.bt y (q + n)) = false) (hb : blankB (Lx.bt y q) = false) (hc : Lx.bt y q ≠ 47) (f : Nat) (lc : Int × Int) (l : List Tk) :
    ∃ lc' t, lexFrom y (f + 1) q lc l = lexFrom y f (q + n) lc' (l ++ [t]) ∧ key t = (kindOf (y.extract q (q + n)), (y.extract q (q + n)).data.toList, 0) := by
  have R : Run y q n := ⟨hp, ha, hs, hq⟩
  have T := tok_word y q hl
  rw [run_len R] at T
  exact ⟨_, _, lex_at y hy f q n lc l _ 0 hb (by unfold isCom; rw [beq_false_of_ne hc, Bool.false_and]) T, rfl⟩
theorem lex_blank (y : ByteArray) {q : Nat} (hq : q < y.size) (hb : blankB (Lx.bt y q) = true) (f : Nat) (lc : Int × Int) (l : List Tk) : ∃ lc', lexFrom y (f + 1) q lc l = lexFrom y (f + 1) (q + 1) lc' l :=
  ⟨_, lex_gap y (.blank q (q + 1) hq hb (.nil _)) f lc l⟩
structure Wrap (pre s post y : ByteArray) : Prop where
  size : y.size = pre.size + s.size + post.size
  h1 : ∀ q, q < pre.size → Lx.bt y q = Lx.bt pre q
  h2 : ∀ q, q < s.size → Lx.bt y (pre.size + q) = Lx.bt s q
  h3 : ∀ q, Lx.bt y (pre.size + s.size + q) = Lx.bt post q
theorem wrap_of (pre s post : ByteArray) : Wrap pre s post ((pre ++ s) ++ post) := by
  have hs : (pre ++ s).size = pre.size + s.size := by simp
  refine ⟨by simp, fun q hq => ?_, fun q hq => ?_, fun q => ?_⟩
  · rw [bt_app_left _ _ _ (by omega), bt_app_left _ _ _ hq]
  · rw [bt_app_left _ _ _ (by omega), bt_app]
  · rw [← hs, bt_app]
def PreOk (y : ByteArray) (n : Nat) (K : List Key) : Prop := ∃ (f : Nat) (lc : Int × Int) (tp : List Tk), lexFrom y (y.size + 1) 0 (1, 1) [] = lexFrom y f n lc tp ∧ y.size - n < f ∧ keys tp = K
def PostOk (y : ByteArray) (n : Nat) (K : List Key) : Prop := ∀ (f : Nat) (lc : Int × Int) (l : List Tk), y.size - n < f → ∃ tq, lexFrom y f n lc l = (l ++ tq, none) ∧ keys tq = K
theorem wrapped {pre s post y : ByteArray} (W : Wrap pre s post y) (hs : s.size < 9223372036854775000) (hy : y.size < 9223372036854775000) (h10 : Lx.bt post 0 = 10) {K1 K2 : List Key} (hp : PreOk y pre.size K1) (hq : PostOk y (pre.size + s.size) K2)
    {ts : List Tk} (h : lexAll s = (ts, none)) : keys (lexAll y).1 = K1 ++ keys ts ++ K2 ∧ (lexAll y).2 = none := by
  obtain ⟨f, lc, tp, e1, hf, hk1⟩ := hp
  have E : Emb s y pre.size := ⟨by have := W.size; omega, W.h2, .inl (by have := W.h3 0; rw [Nat.add_zero] at this; rw [this, h10])⟩
  obtain ⟨G, hG, e2⟩ := emb_lex E 0 hs hy (s.size + 1) 0 (1, 1) [] ts (Nat.zero_le _) (by omega) (by rw [List.nil_append]; exact h) f tp (by rw [Nat.add_zero]; exact hf)
  obtain ⟨tq, e3, hk2⟩ := hq G (sh 0 (adv s 0 (1, 1) (s.size - 0))) (tp ++ ts.map (shT 0)) hG
  rw [e3, Nat.add_zero] at e2
  have hk := lex_keys y f pre.size lc (sh 0 (1, 1)) tp tp rfl
  rw [e2] at hk
  have ha : lexAll y = lexFrom y f pre.size lc tp := e1
  have hsh : keys (ts.map (shT 0)) = keys ts := by unfold keys; rw [List.map_map]; rfl
  refine ⟨by rw [ha, hk.1, keys_app, keys_app, hk1, hsh, hk2], ?_⟩
  rw [ha]
  have := hk.2
  cases hx : (lexFrom y f pre.size lc tp).2 with
  | none => rfl
  | some p => rw [hx] at this; cases this
theorem pre_one {s post y : ByteArray} (W : Wrap ⟨#[40]⟩ s post y) (hy : y.size < 9223372036854775000) : PreOk y 1 [(4, [40], 0)] := by
  have hz : 0 < y.size := by have := W.size; have : (⟨#[40]⟩ : ByteArray).size = 1 := rfl; omega
  have b0 : Lx.bt y 0 = 40 := W.h1 0 (by decide)
  obtain ⟨lc, t, e, k⟩ := lex_sole y hy hz (.inl b0) (n := 40) (by omega) b0 y.size (1, 1) []
  exact ⟨_, _, _, e, by omega, by show [key t] = _; rw [k]; rfl⟩
theorem pre_two {s post y : ByteArray} (W : Wrap ⟨#[40, 32, 40]⟩ s post y) (hy : y.size < 9223372036854775000) : PreOk y 3 [(4, [40], 0), (4, [40], 0)] := by
  have hz : 3 ≤ y.size := by have := W.size; have : (⟨#[40, 32, 40]⟩ : ByteArray).size = 3 := rfl; omega
  have b0 : Lx.bt y 0 = 40 := W.h1 0 (by decide)
  have b1 : Lx.bt y 1 = 32 := W.h1 1 (by decide)
  have b2 : Lx.bt y 2 = 40 := W.h1 2 (by decide)
  obtain ⟨f, hf⟩ : ∃ f, y.size = f + 1 := ⟨y.size - 1, by omega⟩
  obtain ⟨lc, t, e, k⟩ := lex_sole y hy (q := 0) (by omega) (.inl b0) (n := 40) (by omega) b0 (f + 1) (1, 1) []
  obtain ⟨lc2, e2⟩ := lex_blank y (q := 0 + 1) (by omega) (by rw [show 0 + 1 = 1 from rfl, b1]; decide) f lc ([] ++ [t])
  obtain ⟨lc3, t3, e3, k3⟩ := lex_sole y hy (q := 0 + 1 + 1) (by omega) (.inl b2) (n := 40) (by omega) b2 f lc2 ([] ++ [t])
  exact ⟨_, _, _, by rw [hf, e, e2, e3], by omega, by show [key t, key t3] = _; rw [k, k3]; rfl⟩
theorem pre_word {s post y : ByteArray} (c : UInt8) (hc : c = 91 ∨ c = 40) (W : Wrap ⟨#[113, c]⟩ s post y) (hy : y.size < 9223372036854775000) : PreOk y 2 [(1, [113], 0), (4, [c], 0)] := by
  have hz : 2 ≤ y.size := by have := W.size; have : (⟨#[113, c]⟩ : ByteArray).size = 2 := rfl; omega
  have b0 : Lx.bt y 0 = 113 := W.h1 0 (by show 0 < 2; omega)
  have b1 : Lx.bt y 1 = (c.toNat : Int) := W.h1 1 (by show 1 < 2; omega)
  obtain ⟨f, hf⟩ : ∃ f, y.size = f + 1 := ⟨y.size - 1, by omega⟩
  have hw : wcB (Lx.bt y (0 + 1)) = false := by rw [show 0 + 1 = 1 from rfl, b1]; rcases hc with rfl | rfl <;> decide
  obtain ⟨lc, t, e, k⟩ := lex_word y hy (q := 0) (n := 1) (by omega) (by omega) (by rw [b0]; decide) (fun m hm => by rw [show 0 + m = 0 by omega, b0]; decide) hw (by rw [b0]; decide) (by rw [b0]; decide) (f + 1) (1, 1) []
  have hx : y.extract 0 (0 + 1) = ⟨#[113]⟩ := ext_list (text_one (q := 0) (n := 113) (by omega) (by omega) b0)
  rw [hx] at k
  have hso : Sole y (0 + 1) := by rcases hc with rfl | rfl; exact .inr (.inr (.inl b1)); exact .inl b1
  obtain ⟨lc3, t3, e3, k3⟩ := lex_sole y hy (q := 0 + 1) (by omega) hso (n := c.toNat) (UInt8.toNat_lt c) b1 f lc ([] ++ [t])
  exact ⟨_, _, _, by rw [hf, e, e3], by omega, by show [key t, key t3] = _; rw [k, k3]; rcases hc with rfl | rfl <;> decide⟩
theorem pre_cast {s post y : ByteArray} (W : Wrap ⟨#[117, 49, 54, 40]⟩ s post y) (hy : y.size < 9223372036854775000) : PreOk y 4 [(2, [117, 49, 54], 0), (4, [40], 0)] := by
  have hz : 4 ≤ y.size := by have := W.size; have : (⟨#[117, 49, 54, 40]⟩ : ByteArray).size = 4 := rfl; omega
  have b0 : Lx.bt y 0 = 117 := W.h1 0 (by decide)
  have b1 : Lx.bt y 1 = 49 := W.h1 1 (by decide)
  have b2 : Lx.bt y 2 = 54 := W.h1 2 (by decide)
  have b3 : Lx.bt y 3 = 40 := W.h1 3 (by decide)
  obtain ⟨f, hf⟩ : ∃ f, y.size = f + 1 := ⟨y.size - 1, by omega⟩
  obtain ⟨lc, t, e, k⟩ := lex_word y hy (q := 0) (n := 3) (by omega) (by omega) (by rw [b0]; decide) (fun m hm => by
    rw [Nat.zero_add]
    rcases (show m = 0 ∨ m = 1 ∨ m = 2 by omega) with rfl | rfl | rfl
    · rw [b0]; decide
    · rw [b1]; decide
    · rw [b2]; decide) (by rw [Nat.zero_add, b3]; decide) (by rw [b0]; decide) (by rw [b0]; decide) (f + 1) (1, 1) []
  have hx : y.extract 0 (0 + 3) = ⟨#[117, 49, 54]⟩ := bytes_eq (by have h3 : (⟨#[117, 49, 54]⟩ : ByteArray).size = 3 := rfl; rw [h3]; simp; omega) (fun q hq => by
    have hq3 : q < 3 := by simp at hq; omega
    rw [bt_piece y 0 3 q (by omega) hq3, Nat.zero_add]
    rcases (show q = 0 ∨ q = 1 ∨ q = 2 by omega) with rfl | rfl | rfl
    · rw [b0]; decide
    · rw [b1]; decide
    · rw [b2]; decide)
  rw [hx] at k
  obtain ⟨lc3, t3, e3, k3⟩ := lex_sole y hy (q := 0 + 3) (by omega) (.inl b3) (n := 40) (by omega) b3 f lc ([] ++ [t])
  exact ⟨_, _, _, by rw [hf, e, e3], by omega, by show [key t, key t3] = _; rw [k, k3]; decide⟩
theorem pre_not {s post y : ByteArray} (W : Wrap ⟨#[33, 40]⟩ s post y) (hy : y.size < 9223372036854775000) : PreOk y 2 [(4, [33], 0), (4, [40], 0)] := by
  have hz : 2 ≤ y.size := by have := W.size; have : (⟨#[33, 40]⟩ : ByteArray).size = 2 := rfl; omega
  have b0 : Lx.bt y 0 = 33 := W.h1 0 (by decide)
  have b1 : Lx.bt y 1 = 40 := W.h1 1 (by decide)
  obtain ⟨f, hf⟩ : ∃ f, y.size = f + 1 := ⟨y.size - 1, by omega⟩
  obtain ⟨lc, t, e, k⟩ := lex_sole y hy (q := 0) (by omega) (.inr (.inr (.inr (.inr ⟨b0, b1⟩)))) (n := 33) (by omega) b0 (f + 1) (1, 1) []
  obtain ⟨lc3, t3, e3, k3⟩ := lex_sole y hy (q := 0 + 1) (by omega) (.inl b1) (n := 40) (by omega) b1 f lc ([] ++ [t])
  exact ⟨_, _, _, by rw [hf, e, e3], by omega, by show [key t, key t3] = _; rw [k, k3]; decide⟩
theorem post_one {pre s y : ByteArray} (c : UInt8) (hc : c = 41 ∨ c = 93) (W : Wrap pre s ⟨#[10, c]⟩ y) (hy : y.size < 9223372036854775000) : PostOk y (pre.size + s.size) [(4, [c], 0)] := by
  intro f lc l hf
  have hz : y.size = pre.size + s.size + 2 := by have := W.size; have : (⟨#[10, c]⟩ : ByteArray).size = 2 := rfl; omega
  have b0 : Lx.bt y (pre.size + s.size) = 10 := W.h3 0
  have b1 : Lx.bt y (pre.size + s.size + 1) = (c.toNat : Int) := W.h3 1
  generalize pre.size + s.size = n at *
  obtain ⟨f, rfl⟩ : ∃ g, f = g + 1 := ⟨f - 1, by omega⟩
  obtain ⟨lc2, e2⟩ := lex_blank y (q := n) (by omega) (by rw [b0]; decide) f lc l
  have hso : Sole y (n + 1) := by rcases hc with rfl | rfl; exact .inr (.inl b1); exact .inr (.inr (.inr (.inl b1)))
  obtain ⟨lc3, t3, e3, k3⟩ := lex_sole y hy (q := n + 1) (by omega) hso (n := c.toNat) (UInt8.toNat_lt c) b1 f lc2 l
  refine ⟨[t3], ?_, by show [key t3] = _; rw [k3]; rcases hc with rfl | rfl <;> decide⟩
  rw [e2, e3, show n + 1 + 1 = y.size by omega, lex_end y hy]
theorem post_two {pre s y : ByteArray} (W : Wrap pre s ⟨#[10, 41, 41]⟩ y) (hy : y.size < 9223372036854775000) : PostOk y (pre.size + s.size) [(4, [41], 0), (4, [41], 0)] := by
  intro f lc l hf
  have hz : y.size = pre.size + s.size + 3 := by have := W.size; have : (⟨#[10, 41, 41]⟩ : ByteArray).size = 3 := rfl; omega
  have b0 : Lx.bt y (pre.size + s.size) = 10 := W.h3 0
  have b1 : Lx.bt y (pre.size + s.size + 1) = 41 := W.h3 1
  have b2 : Lx.bt y (pre.size + s.size + 1 + 1) = 41 := W.h3 2
  generalize pre.size + s.size = n at *
  obtain ⟨f, rfl⟩ : ∃ g, f = g + 1 + 1 := ⟨f - 2, by omega⟩
  obtain ⟨lc2, e2⟩ := lex_blank y (q := n) (by omega) (by rw [b0]; decide) (f + 1) lc l
  obtain ⟨lc3, t3, e3, k3⟩ := lex_sole y hy (q := n + 1) (by omega) (.inr (.inl b1)) (n := 41) (by omega) b1 (f + 1) lc2 l
  obtain ⟨lc4, t4, e4, k4⟩ := lex_sole y hy (q := n + 1 + 1) (by omega) (.inr (.inl b2)) (n := 41) (by omega) b2 f lc3 (l ++ [t3])
  refine ⟨[t3, t4], ?_, by show [key t3, key t4] = _; rw [k3, k4]; rfl⟩
  rw [e2, e3, e4, show n + 1 + 1 + 1 = y.size by omega, lex_end y hy, List.append_assoc]; rfl
end Go.Proofs.YtnjnadlgndjnbaaDoor.Fp
