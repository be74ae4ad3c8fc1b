/- Plain laws of the reference of chapter 5: a token. -/
import Derived.Test.YtgkhpecllhiidaaDoorPc
import Derived.Test.YtgkhpecllhiidaaDoorQx4a
set_option linter.unusedVariables false
set_option linter.unusedSimpArgs false
namespace Go.Proofs.YtgkhpecllhiidaaDoor.Q
open Go.RowKit Go.Proofs.YtgkhpecllhiidaaDoorW.PrintWords Go.Proofs.YtgkhpecllhiidaaDoorW.PrintLast Go.Proofs.YtgkhpecllhiidaaDoorW.PrintMore
open Lx (letB digB wcB allW kindOf isKey keyList hexOk hexV nscan numStop isHex numScan numAt wscan wordLen signLen)

theorem least (P : Nat → Bool) : ∀ n : Nat, (∀ q, q < n → P q = true) ∨ ∃ b, b < n ∧ P b = false ∧ ∀ q, q < b → P q = true := by
  intro n; induction n with
  | zero => exact .inl (fun q h => by omega)
  | succ n ih =>
    rcases ih with h | ⟨b, h1, h2, h3⟩
    · cases hn : P n
      · exact .inr ⟨n, by omega, hn, h⟩
      · refine .inl (fun q hq => ?_)
        rcases Nat.lt_or_ge q n with h' | h'
        · exact h q h'
        · obtain rfl : q = n := by omega
          exact hn
    · exact .inr ⟨b, by omega, h2, h3⟩
theorem bt_piece (s : ByteArray) (i n q : Nat) (h : i + n ≤ s.size) (hq : q < n) : Lx.bt (s.extract i (i + n)) q = Lx.bt s (i + q) := Lx.bt_extract s i n q h hq
theorem bt_tail (s : ByteArray) (i q : Nat) (hi : i ≤ s.size) : Lx.bt (s.extract i s.size) q = Lx.bt s (i + q) := by
  rcases Nat.lt_or_ge q (s.size - i) with h | h
  · have := bt_piece s i (s.size - i) q (by omega) h
    rwa [show i + (s.size - i) = s.size from by omega] at this
  · rw [Lx.bt_out _ _ (by simp; omega), Lx.bt_out _ _ (by omega)]
theorem piece_piece (s : ByteArray) (i n a b : Nat) (h : i + n ≤ s.size) (hb : b ≤ n) : (s.extract i (i + n)).extract a b = s.extract (i + a) (i + b) := by
  refine ext_list ?_
  rw [extract_list, extract_list, extract_list, List.drop_take, List.take_take, List.drop_drop]
  congr 1
  omega
theorem piece_tail (s : ByteArray) (i n : Nat) (h : i + n ≤ s.size) : (s.extract i s.size).extract 0 n = s.extract i (i + n) := by
  have := piece_piece s i (s.size - i) 0 n (by omega) (by omega)
  rwa [show i + (s.size - i) = s.size from by omega, Nat.add_zero] at this
theorem wscan_run (s : ByteArray) : ∀ (f j : Nat), s.size - j < f → (∀ m, m < wscan s f j → wcB (Lx.bt s (j + m)) = true) ∧ wcB (Lx.bt s (j + wscan s f j)) = false := by
  intro f; induction f with
  | zero => intro j h; omega
  | succ f ih =>
    intro j h
    unfold wscan
    by_cases hw : wcB (Lx.bt s j) = true
    · rw [if_pos hw]
      have hj := Lx.wcB_lt s j hw
      obtain ⟨h1, h2⟩ := ih (j + 1) (by omega)
      refine ⟨fun m hm => ?_, by rwa [show j + (1 + wscan s f (j + 1)) = j + 1 + wscan s f (j + 1) from by omega]⟩
      cases m with
      | zero => exact hw
      | succ m => have := h1 m (by omega); rwa [show j + (m + 1) = j + 1 + m from by omega]
    · rw [if_neg hw]
      exact ⟨fun m hm => by omega, by simpa using hw⟩
/-- The run of word bytes at i. -/
structure Run (s : ByteArray) (i n : Nat) : Prop where
  pos : 0 < n
  all : ∀ m, m < n → wcB (Lx.bt s (i + m)) = true
  stop : wcB (Lx.bt s (i + n)) = false
  fit : i + n ≤ s.size
theorem run_at (s : ByteArray) (i : Nat) (h : wcB (Lx.bt s i) = true) : Run s i (wordLen s i) := by
  have hi := Lx.wcB_lt s i h
  obtain ⟨h1, h2⟩ := wscan_run s (s.size + 1) (i + 1) (by omega)
  have hall : ∀ m, m < wordLen s i → wcB (Lx.bt s (i + m)) = true := by
    intro m hm
    unfold wordLen at hm
    cases m with
    | zero => exact h
    | succ m => have := h1 m (by omega); rwa [show i + (m + 1) = i + 1 + m from by omega]
  refine ⟨Lx.wordLen_pos s i, hall, ?_, ?_⟩
  · unfold wordLen; rwa [show i + (1 + wscan s (s.size + 1) (i + 1)) = i + 1 + wscan s (s.size + 1) (i + 1) from by omega]
  · have hp := Lx.wordLen_pos s i
    have := Lx.wcB_lt s _ (hall (wordLen s i - 1) (by omega))
    omega
theorem dOk_wc {base c : Int} (h : dOk base c = true) : wcB c = true := by
  unfold dOk hexOk at h
  unfold wcB letB
  simp only [Bool.and_eq_true, Bool.or_eq_true, decide_eq_true_eq] at h ⊢
  rcases h.1 with h | h
  · exact .inr h
  · exact .inl (.inl (by omega))
theorem dig_ok {base c : Int} (hb : base = 10 ∨ base = 16) (h : digB c = true) : dOk base c = true := by
  rcases hb with rfl | rfl
  · rw [dOk_ten]; exact h
  · rw [dOk_hex, h]; rfl
def upper (c : Int) : Bool := decide (65 ≤ c) && decide (c ≤ 90)
/-- What is scanned in a base from j on is a number exactly if the reference's is one. -/
theorem number_base (s t : ByteArray) (base : Int) (hb : base = 10 ∨ base = 16) (j n : Nat) (hs : s.size < 9223372036854775000) (hstop : wcB (Lx.bt s (j + n)) = false) (hwc : ∀ m, m < n → wcB (Lx.bt s (j + m)) = true) (hfit : j + n ≤ s.size)
    (ht : t.size = n) (hbt : ∀ q, q < t.size → Lx.bt t q = Lx.bt s (j + q)) (F : Nat) (hF : n < F) (k : Nat) (hk : 2 * n + 5 < k) :
    ∃ v b, lamplighterref05_number.l0 k base t 0 = some (v, b) ∧ (if numStop s (nscan s base F j 0 0) then none else some ((nscan s base F j 0 0).1, (nscan s base F j 0 0).2.2)) = if b && !upper (Lx.bt s (j + n)) then some (j + n, v) else none := by
  rcases least (fun q => dOk base (Lx.bt s (j + q))) n with hall | ⟨b, hb1, hb2, hb3⟩
  · have hok : ∀ q, q < t.size → dOk base (Lx.bt t q) = true := fun q hq => by rw [hbt q hq]; exact hall q (by omega)
    have hst : dOk base (Lx.bt s (j + n)) = false := by
      cases h : dOk base (Lx.bt s (j + n))
      · rfl
      · rw [dOk_wc h] at hstop; cases hstop
    have hR := fun k' (hk' : t.size < k') => num_value s t j base hb (by omega) hbt hok n k' 0 0 (by omega) (by omega) (by omega) (by omega) (by omega)
    have h0 := num_good_digits t base hb (by omega) _ hR hok n k 0 (by omega) (by omega) (by omega)
    have hn := nscan_run s base n F j 0 0 hF hall hst
    have hV := vfold_range s base (by omega) n j 0 (by omega) (by omega)
    rw [hn]
    simp only [Nat.add_zero] at h0
    generalize vfold s base j n 0 = V at *
    have hl : letB (Lx.bt s (j + n)) = false ∧ digB (Lx.bt s (j + n)) = false := by
      unfold wcB at hstop; rw [Bool.or_eq_false_iff] at hstop; exact hstop
    by_cases hV' : 4294967296 ≤ V
    · have e : numRes V (decide (0 < t.size)) = (0, false) := by unfold numRes; rw [if_pos hV']
      rw [e] at h0
      refine ⟨0, false, h0, ?_⟩
      have : numStop s (j + n, 0 + (n : Int), V) = true := by simp [numStop, hV']
      rw [this]; rfl
    · have e : numRes V (decide (0 < t.size)) = (V, decide (0 < t.size)) := by unfold numRes; rw [if_neg hV', Int.emod_eq_of_lt hV.1 (by omega)]
      rw [e] at h0
      refine ⟨V, _, h0, ?_⟩
      unfold numStop upper
      simp only []
      rw [hl.1, hl.2, decide_eq_false hV', ht]
      simp only [Bool.or_false]
      by_cases hn0 : n = 0
      · subst hn0; simp
      · have e1 : ((0 : Int) + (n : Int) == 0) = false := by rw [beq_eq_false_iff_ne]; omega
        have e2 : decide (0 < n) = true := by simp; omega
        rw [e1, e2]
        cases (decide (65 ≤ Lx.bt s (j + n)) && decide (Lx.bt s (j + n) ≤ 90)) <;> rfl
  · have h0 := num_bad_digits t base hb (by omega) b (by omega) (by rw [hbt b (by omega)]; exact hb2) b k 0 (by omega) (by omega) (by omega)
    refine ⟨0, false, h0, ?_⟩
    rw [nscan_run s base b F j 0 0 (by omega) hb3 hb2]
    have hw := hwc b hb1
    have hl : letB (Lx.bt s (j + b)) = true := by
      unfold wcB at hw
      rw [Bool.or_eq_true] at hw
      rcases hw with h | h
      · exact h
      · rw [dig_ok hb h] at hb2; cases hb2
    have : numStop s (j + b, 0 + (b : Int), vfold s base j b 0) = true := by simp [numStop, hl]
    rw [this]; rfl
theorem hp_hex (s : ByteArray) (i n : Nat) (h : i + n ≤ s.size) (hn : 0 < n) (h1 : isHex s i = true → 2 ≤ n) : hp (s.extract i (i + n)) ⟨#[48, 120]⟩ = isHex s i := by
  rw [hp_list, extract_list, show i + n - i = n from by omega]
  cases hd : s.data.toList.drop i with
  | nil => have := congrArg List.length hd; simp at this; omega
  | cons c0 r =>
    have e0 : ∀ (c : UInt8) (z : UInt8), (((c.toNat : Int)) == (z.toNat : Int)) = (z == c) := by
      intro c z
      rw [Bool.eq_iff_iff, beq_iff_eq, beq_iff_eq]
      constructor
      · intro e; exact UInt8.toNat_inj.1 (by omega)
      · intro e; rw [e]
    have g0 := bt_head hd
    have hh : isHex s i = ((48 == c0) && (Lx.bt s (i + 1) == 120)) := by
      unfold isHex; rw [g0]
      show (((c0.toNat : Int) == ((48 : UInt8).toNat : Int)) && _) = _
      rw [e0]
    cases r with
    | nil =>
      have h2 : Lx.bt s (i + 1) = 0 := Lx.bt_out _ _ (by have := congrArg List.length hd; simp at this; omega)
      rw [hh, h2]
      cases n with
      | zero => omega
      | succ n => simp [List.isPrefixOf]
    | cons c1 r =>
      have g1 := bt_head (drop_succ hd)
      have hh' : isHex s i = ((48 == c0) && (120 == c1)) := by
        rw [hh, g1]
        show (_ && ((c1.toNat : Int) == ((120 : UInt8).toNat : Int))) = _
        rw [e0]
      cases n with
      | zero => omega
      | succ n =>
        cases n with
        | zero =>
          have : isHex s i = false := by
            cases hx : isHex s i
            · rfl
            · have := h1 hx; omega
          rw [this]; simp [List.isPrefixOf]
        | succ n => rw [hh']; simp [List.isPrefixOf]
theorem number_at (s : ByteArray) (i n : Nat) (hs : s.size < 9223372036854775000) (R : Run s i n) (k : Nat) (hk : 2 * n + 9 < k) :
    ∃ v b, lamplighterref05_number.f k (s.extract i (i + n)) = some (v, b) ∧ numAt s i = if b && !upper (Lx.bt s (i + n)) then some (n, v) else none := by
  have hsz : (s.extract i (i + n)).size = n := by have := R.fit; simp; omega
  cases k with
  | zero => omega
  | succ k =>
  unfold lamplighterref05_number.f
  have hx2 : isHex s i = true → 2 ≤ n := by
    intro h
    have hp := R.pos
    rcases Nat.lt_or_ge n 2 with h' | h'
    · obtain rfl : n = 1 := by omega
      have := R.stop
      unfold isHex at h
      rw [Bool.and_eq_true, beq_iff_eq, beq_iff_eq] at h
      rw [h.2] at this; revert this; decide
    · exact h'
  rw [hp_eq, Option.bind_some, hp_hex s i n R.fit R.pos hx2, hsz]
  unfold numAt numScan
  cases hx : isHex s i
  · rw [if_neg (by simp)]
    simp only [Bool.false_eq_true, if_false]
    obtain ⟨v, b, h1, h2⟩ := number_base s (s.extract i (i + n)) 10 (.inl rfl) i n hs R.stop R.all R.fit hsz (fun q hq => bt_piece s i n q R.fit (by omega)) (s.size + 3) (by have := R.fit; omega) k (by omega)
    refine ⟨v, b, ?_, ?_⟩
    · unfold lamplighterref05_number.j0; exact h1
    · have h3 := congrArg (Option.map fun p : Nat × Int => (p.1 - i, p.2)) h2
      cases hb : (b && !upper (Lx.bt s (i + n))) <;> cases hst : numStop s (nscan s 10 (s.size + 3) i 0 0) <;> rw [hb, hst] at h3 <;> simp at h3 ⊢
      exact ⟨by omega, h3.2⟩
  · have hn2 := hx2 hx
    rw [if_pos rfl, if_pos (by omega)]
    simp only [if_true]
    have ht : (s.extract i (i + n)).extract 2 n = s.extract (i + 2) (i + n) := piece_piece s i n 2 n R.fit (by omega)
    obtain ⟨v, b, h1, h2⟩ := number_base s (s.extract (i + 2) (i + n)) 16 (.inr rfl) (i + 2) (n - 2) hs (by rw [show i + 2 + (n - 2) = i + n from by omega]; exact R.stop) (fun m hm => by have := R.all (2 + m) (by omega); rwa [show i + (2 + m) = i + 2 + m from by omega] at this) (by have := R.fit; omega)
      (by have := R.fit; simp; omega) (fun q hq => by
        have hq' : q < n - 2 := by have := R.fit; simp at hq; omega
        have := bt_piece s (i + 2) (n - 2) q (by have := R.fit; omega) hq'
        rwa [show i + 2 + (n - 2) = i + n from by omega] at this) (s.size + 3) (by have := R.fit; omega) k (by omega)
    rw [show i + 2 + (n - 2) = i + n from by omega] at h2
    refine ⟨v, b, ?_, ?_⟩
    · rw [ht]; unfold lamplighterref05_number.j0; exact h1
    · have h3 := congrArg (Option.map fun p : Nat × Int => (p.1 - i, p.2)) h2
      cases hb : (b && !upper (Lx.bt s (i + n))) <;> cases hst : numStop s (nscan s 16 (s.size + 3) (i + 2) 0 0) <;> rw [hb, hst] at h3 <;> simp at h3 ⊢
      exact ⟨by omega, h3.2⟩
end Go.Proofs.YtgkhpecllhiidaaDoor.Q
