/- Plain laws of chapter 5: a text that is one number, and a text that begins with what is none. -/
import Derived.Test.YtgkhpecllhiidaaDoorPh
set_option linter.unusedVariables false
set_option linter.unusedSimpArgs false
namespace Go.Proofs.YtgkhpecllhiidaaDoor.Q
open Go.RowKit Go.Proofs.YtgkhpecllhiidaaDoorW.PrintWords Go.Proofs.YtgkhpecllhiidaaDoorW.PrintLast Go.Proofs.YtgkhpecllhiidaaDoorW.PrintMore
open Lx (letB digB wcB numAt wordLen signLen adv betw comLen isCom blankB lexStep lexFrom lexAll toks Tk LexR nscan numStop isHex numScan hexV)

theorem dig_not_blank {c : Int} (hd : digB c = true) : blankB c = false := by
  have hc : 48 ≤ c ∧ c ≤ 57 := by simpa [digB] using hd
  unfold blankB
  have h1 : (c == 32) = false := by rw [beq_eq_false_iff_ne]; omega
  have h2 : (c == 9) = false := by rw [beq_eq_false_iff_ne]; omega
  have h3 : (c == 10) = false := by rw [beq_eq_false_iff_ne]; omega
  have h4 : (c == 13) = false := by rw [beq_eq_false_iff_ne]; omega
  rw [h1, h2, h3, h4]; rfl
theorem dig_not_com {s : ByteArray} {i : Nat} (hd : digB (Lx.bt s i) = true) : isCom s i = false := by
  have hc : 48 ≤ Lx.bt s i ∧ Lx.bt s i ≤ 57 := by simpa [digB] using hd
  unfold isCom
  have h1 : (Lx.bt s i == 47) = false := by rw [beq_eq_false_iff_ne]; omega
  rw [h1]; rfl
theorem gap_stop {s : ByteArray} {i j : Nat} (g : Gap s i j) (hb : blankB (Lx.bt s i) = false) (hc : isCom s i = false) : j = i := by
  cases g with
  | nil => rfl
  | blank _ _ _ h => rw [hb] at h; cases h
  | com _ _ _ _ h => rw [hc] at h; cases h
theorem gap_end {s : ByteArray} {i j : Nat} (g : Gap s i j) (h : s.size ≤ i) : j = i := by
  cases g with
  | nil => rfl
  | blank _ _ h' => omega
  | com _ _ h' => omega
theorem lex_end (s : ByteArray) (hs : s.size < 9223372036854775000) (f : Nat) (lc : Int × Int) (l : List Tk) : lexFrom s f s.size lc l = (l, none) := by
  cases f with
  | zero => rfl
  | succ f =>
    obtain ⟨j, h1, h2, hg, h | ⟨h, _⟩⟩ := lex_step s hs f s.size lc l (Nat.le_refl _)
    · exact h.2
    · omega
/-- A text that is one number. -/
theorem lex_number (y : ByteArray) (n : Int) (hs : y.size < 9223372036854775000) (hp : 0 < y.size) (hd : digB (Lx.bt y 0) = true) (hn : numAt y 0 = some (y.size, n)) : lexAll y = ([⟨3, y, 1, 1, n⟩], none) := by
  unfold lexAll
  obtain ⟨j, h1, h2, hg, h⟩ := lex_step y hs y.size 0 (1, 1) [] (by omega)
  obtain rfl := gap_stop hg (dig_not_blank hd) (dig_not_com hd)
  have hr : tokRes y 0 = (3, y.extract 0 (0 + y.size), 0, 0, n) := by
    unfold tokRes
    rw [if_neg (by rw [dig_not_let hd]; simp), if_pos hd, hn]
  have hy : y.extract 0 (0 + y.size) = y := ext_list (by rw [extract_list, List.drop_zero, List.take_of_length_le (by simp)])
  rcases h with h | ⟨_, _, _, ⟨h0, _⟩ | ⟨m, kind, num, T, h⟩⟩
  · omega
  · rw [hr] at h0; simp at h0
  · have e := T.res
    rw [hr] at e
    simp only [Prod.mk.injEq] at e
    obtain ⟨e1, e2, _, _, e3⟩ := e
    have hm : m = y.size := by
      have := congrArg ByteArray.size e2
      have hf := T.fit
      simp at this; omega
    subst hm
    rw [h, Nat.zero_add, lex_end y hs, ← e1, ← e3]
    rw [Nat.zero_add] at hy
    rw [hy]
    rfl
/-- A text that begins with a digit and with no number. -/
theorem lex_no_number (y : ByteArray) (hs : y.size < 9223372036854775000) (hp : 0 < y.size) (hd : digB (Lx.bt y 0) = true) (hn : numAt y 0 = none) : lexAll y = ([], some (1, 1)) := by
  unfold lexAll
  obtain ⟨j, h1, h2, hg, h⟩ := lex_step y hs y.size 0 (1, 1) [] (by omega)
  obtain rfl := gap_stop hg (dig_not_blank hd) (dig_not_com hd)
  have hr : tokRes y 0 = (0, ⟨#[]⟩, 0, 0, 0) := by
    unfold tokRes
    rw [if_neg (by rw [dig_not_let hd]; simp), if_pos hd, hn]
  rcases h with h | ⟨_, _, _, ⟨_, h⟩ | ⟨m, kind, num, T, h⟩⟩
  · omega
  · rw [h]; rfl
  · have e := T.res
    rw [hr] at e
    simp only [Prod.mk.injEq] at e
    exact absurd e.1.symm T.kind
/-! ### Values -/
theorem bt_app (z t : ByteArray) (q : Nat) : Lx.bt (z ++ t) (z.size + q) = Lx.bt t q := by
  have hz : z.data.toList.length = z.size := by simp
  rw [Lx.bt_list, Lx.bt_list, ba_append, List.getD_eq_getElem?_getD, List.getD_eq_getElem?_getD, List.getElem?_append_right (by omega)]
  rw [hz, Nat.add_sub_cancel_left]
theorem bt_app_left (z t : ByteArray) (q : Nat) (h : q < z.size) : Lx.bt (z ++ t) q = Lx.bt z q := by
  have hz : z.data.toList.length = z.size := by simp
  rw [Lx.bt_list, Lx.bt_list, ba_append, List.getD_eq_getElem?_getD, List.getD_eq_getElem?_getD, List.getElem?_append_left (by omega)]
theorem vfold_shift (s t : ByteArray) (b : Int) : ∀ (m j i : Nat) (v : Int), (∀ q, q < m → Lx.bt s (j + q) = Lx.bt t (i + q)) → vfold s b j m v = vfold t b i m v := by
  intro m; induction m with
  | zero => intro j i v h; rfl
  | succ m ih =>
    intro j i v h
    have h0 := h 0 (by omega)
    rw [Nat.add_zero, Nat.add_zero] at h0
    rw [vfold_succ, vfold_succ, h0]
    exact ih (j + 1) (i + 1) _ (fun q hq => by have := h (q + 1) (by omega); rwa [show j + (q + 1) = j + 1 + q from by omega, show i + (q + 1) = i + 1 + q from by omega] at this)
theorem vfold_add (s : ByteArray) (b : Int) : ∀ (m j n : Nat) (v : Int), vfold s b j (m + n) v = vfold s b (j + m) n (vfold s b j m v) := by
  intro m; induction m with
  | zero => intro j n v; rw [Nat.zero_add]; rfl
  | succ m ih => intro j n v; rw [show m + 1 + n = m + n + 1 from by omega, vfold_succ, ih, vfold_succ, show j + 1 + m = j + (m + 1) from by omega]
theorem vfold_app (z t : ByteArray) (b : Int) (v : Int) : vfold (z ++ t) b 0 (z.size + t.size) v = vfold t b 0 t.size (vfold z b 0 z.size v) := by
  rw [vfold_add, vfold_shift (z ++ t) z b z.size 0 0 v (fun q hq => by rw [Nat.zero_add]; exact bt_app_left z t q hq)]
  exact vfold_shift (z ++ t) t b t.size (0 + z.size) 0 _ (fun q hq => by rw [Nat.zero_add, Nat.zero_add]; exact bt_app z t q)
/-- All bytes are digits of the base. -/
def AllD (b : Int) (t : ByteArray) : Prop := ∀ q, q < t.size → dOk b (Lx.bt t q) = true
theorem allD_app {b : Int} {z t : ByteArray} (hz : AllD b z) (ht : AllD b t) : AllD b (z ++ t) := by
  intro q hq
  rw [ByteArray.size_append] at hq
  rcases Nat.lt_or_ge q z.size with h | h
  · rw [bt_app_left z t q h]; exact hz q h
  · have := bt_app z t (q - z.size)
    rw [show z.size + (q - z.size) = q from by omega] at this
    rw [this]; exact ht _ (by omega)
/-- The value of a text of digits. -/
def val (b : Int) (t : ByteArray) : Int := vfold t b 0 t.size 0
theorem stop_end (y : ByteArray) (c d v : Int) (j : Nat) (hj : y.size ≤ j) (hd : 0 < d) (hv : v < 4294967296) : numStop y (j, d, v) = false := by
  unfold numStop
  simp only
  rw [Lx.bt_out y j hj]
  have h1 : (d == 0) = false := by rw [beq_eq_false_iff_ne]; omega
  have h2 : decide (4294967296 ≤ v) = false := by rw [decide_eq_false_iff_not]; omega
  rw [h1, h2]; decide
theorem dok_zero (b : Int) (hb : b = 10 ∨ b = 16) : dOk b 0 = false := by rcases hb with rfl | rfl <;> decide
theorem not_hex_of (y : ByteArray) (h : AllD 10 y) : isHex y 0 = false := by
  unfold isHex
  rw [Bool.and_eq_false_iff]
  right
  rw [beq_eq_false_iff_ne]
  intro e
  rcases Nat.lt_or_ge 1 y.size with h' | h'
  · have := h 1 h'
    rw [e] at this; revert this; decide
  · rw [Lx.bt_out y 1 h'] at e; omega
theorem num_dec (y : ByteArray) (hp : 0 < y.size) (h : AllD 10 y) (hv : val 10 y < 4294967296) : numAt y 0 = some (y.size, val 10 y) := by
  have hr := nscan_run y 10 y.size (y.size + 3) 0 0 0 (by omega) (fun q hq => by rw [Nat.zero_add]; exact h q hq) (by rw [Nat.zero_add, Lx.bt_out y _ (Nat.le_refl _)]; exact dok_zero 10 (.inl rfl))
  unfold numAt numScan
  rw [not_hex_of y h]
  simp only [Bool.false_eq_true, if_false]
  rw [hr, Nat.zero_add]
  have hs : numStop y (y.size, 0 + (y.size : Int), vfold y 10 0 y.size 0) = false := stop_end y 0 _ _ _ (Nat.le_refl _) (by omega) hv
  rw [hs]; rfl
theorem num_hex (h : ByteArray) (hp : 0 < h.size) (ha : AllD 16 h) (hv : val 16 h < 4294967296) : numAt ((⟨#[48, 120]⟩ : ByteArray) ++ h) 0 = some (((⟨#[48, 120]⟩ : ByteArray) ++ h).size, val 16 h) := by
  generalize hy : (⟨#[48, 120]⟩ : ByteArray) ++ h = y
  have hsz : y.size = 2 + h.size := by rw [← hy, ByteArray.size_append]; rfl
  have hb : ∀ q, Lx.bt y (2 + q) = Lx.bt h q := fun q => by rw [← hy]; exact bt_app ⟨#[48, 120]⟩ h q
  have h0 : Lx.bt y 0 = 48 := by rw [← hy, bt_app_left _ _ _ (by decide)]; rfl
  have h1 : Lx.bt y 1 = 120 := by rw [← hy, bt_app_left _ _ _ (by decide)]; rfl
  have hr := nscan_run y 16 h.size (y.size + 3) 2 0 0 (by omega) (fun q hq => by rw [hb]; exact ha q hq) (by rw [Lx.bt_out y _ (by omega)]; exact dok_zero 16 (.inr rfl))
  have hx : isHex y 0 = true := by unfold isHex; rw [h0, h1]; rfl
  unfold numAt numScan
  rw [hx]
  simp only [if_true, Nat.zero_add]
  have hval : vfold y 16 2 h.size 0 = val 16 h := vfold_shift y h 16 h.size 2 0 0 (fun q _ => by rw [hb, Nat.zero_add])
  rw [hr, hval]
  have hs : numStop y (2 + h.size, 0 + (h.size : Int), val 16 h) = false := stop_end y 0 _ _ _ (by omega) (by omega) hv
  rw [hs, hsz]; rfl
end Go.Proofs.YtgkhpecllhiidaaDoor.Q
