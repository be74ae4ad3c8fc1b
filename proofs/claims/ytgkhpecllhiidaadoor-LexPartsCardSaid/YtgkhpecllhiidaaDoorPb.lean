/- Plain laws of the reference of chapter 5: a number's text. -/
import Derived.Test.YtgkhpecllhiidaaDoorPa
set_option linter.unusedVariables false
set_option linter.unusedSimpArgs false
namespace Go.Proofs.YtgkhpecllhiidaaDoor.Q
open Go.RowKit Go.Proofs.YtgkhpecllhiidaaDoorW.PrintWords Go.Proofs.YtgkhpecllhiidaaDoorW.PrintLast Go.Proofs.YtgkhpecllhiidaaDoorW.PrintMore
open Lx (letB digB wcB allW kindOf isKey keyList hexOk hexV nscan numStop isHex numScan numAt)

theorem u64_id (n : Int) (h0 : 0 ≤ n) (h1 : n < 18446744073709551616) : IntKind.u64.wrap n = n := by
  show n % 18446744073709551616 = n
  exact Int.emod_eq_of_lt h0 h1
/-- Is c a digit of the base? -/
def dOk (base c : Int) : Bool := hexOk c && decide (hexV c < base)
theorem dOk_ten (c : Int) : dOk 10 c = digB c := by
  unfold dOk hexOk hexV
  cases hd : digB c
  · simp only [Bool.false_or, Bool.false_eq_true, if_false]
    split
    · rename_i h; simp; omega
    · rename_i h
      have : (decide (97 ≤ c) && decide (c ≤ 102)) = false := by
        rw [Bool.and_eq_false_iff, decide_eq_false_iff_not, decide_eq_false_iff_not]; omega
      rw [this]; rfl
  · simp only [if_true, Bool.true_or, Bool.true_and]
    unfold digB at hd
    simp at hd ⊢
    omega
theorem dOk_hex (c : Int) : dOk 16 c = (digB c || (decide (97 ≤ c) && decide (c ≤ 102))) := by
  unfold dOk
  have : hexV c < 16 := by have := (Lx.hexV_range c).2; omega
  simp [this, hexOk]
def vfold (s : ByteArray) (base : Int) : Nat → Nat → Int → Int
  | _, 0, v => v
  | j, m + 1, v => vfold s base (j + 1) m (min (v * base + hexV (Lx.bt s j)) 4294967296)
theorem nscan_run (s : ByteArray) (base : Int) : ∀ (m F j : Nat) (d v : Int), m < F → (∀ q, q < m → dOk base (Lx.bt s (j + q)) = true) → dOk base (Lx.bt s (j + m)) = false →
    nscan s base F j d v = (j + m, d + m, vfold s base j m v) := by
  intro m; induction m with
  | zero =>
    intro F j d v hF h1 h2
    cases F with
    | zero => omega
    | succ F =>
      unfold nscan
      rw [Nat.add_zero] at h2
      have : ¬ (hexOk (Lx.bt s j) = true ∧ hexV (Lx.bt s j) < base) := by
        intro ⟨a, b⟩; simp [dOk, a, b] at h2
      rw [if_neg this]; simp [vfold]
  | succ m ih =>
    intro F j d v hF h1 h2
    cases F with
    | zero => omega
    | succ F =>
      unfold nscan
      have h0 := h1 0 (by omega)
      rw [Nat.add_zero] at h0
      have : hexOk (Lx.bt s j) = true ∧ hexV (Lx.bt s j) < base := by simpa [dOk] using h0
      rw [if_pos this, ih F (j + 1) _ _ (by omega) (fun q hq => by have := h1 (q + 1) (by omega); rwa [show j + (q + 1) = j + 1 + q from by omega] at this) (by rwa [show j + (m + 1) = j + 1 + m from by omega] at h2)]
      simp only [vfold, Prod.mk.injEq]
      refine ⟨by omega, by push_cast; omega, trivial⟩
theorem vfold_top (s : ByteArray) (base : Int) (hb : 1 ≤ base) : ∀ (m j : Nat), vfold s base j m 4294967296 = 4294967296 := by
  intro m; induction m with
  | zero => intro j; rfl
  | succ m ih =>
    intro j
    have h := (Lx.hexV_range (Lx.bt s j)).1
    have : min (4294967296 * base + hexV (Lx.bt s j)) 4294967296 = 4294967296 := by omega
    simp only [vfold, this]
    exact ih (j + 1)
theorem vfold_range (s : ByteArray) (base : Int) (hb : 1 ≤ base) : ∀ (m j : Nat) (v : Int), 0 ≤ v → v ≤ 4294967296 → 0 ≤ vfold s base j m v ∧ vfold s base j m v ≤ 4294967296 := by
  intro m; induction m with
  | zero => intro j v h0 h1; exact ⟨h0, h1⟩
  | succ m ih =>
    intro j v h0 h1
    have h := (Lx.hexV_range (Lx.bt s j)).1
    have hm : 0 ≤ v * base := Int.mul_nonneg h0 (by omega)
    exact ih (j + 1) _ (by omega) (by omega)
def numRes (v : Int) (b : Bool) : Int × Bool := if 4294967296 ≤ v then (0, false) else (v % 4294967296, b)
theorem vfold_zero (s : ByteArray) (base : Int) (j : Nat) (v : Int) : vfold s base j 0 v = v := rfl
theorem vfold_succ (s : ByteArray) (base : Int) (j m : Nat) (v : Int) : vfold s base j (m + 1) v = vfold s base (j + 1) m (min (v * base + hexV (Lx.bt s j)) 4294967296) := rfl
/-- The reference's second loop: the value. -/
theorem num_value (s t : ByteArray) (j : Nat) (base : Int) (hb : base = 10 ∨ base = 16) (ht : t.size < 9223372036854775000) (hbt : ∀ q, q < t.size → Lx.bt t q = Lx.bt s (j + q)) (hok : ∀ q, q < t.size → dOk base (Lx.bt t q) = true) :
    ∀ (n k q : Nat) (v : Int), t.size - q = n → n < k → q ≤ t.size → 0 ≤ v → v < 4294967296 →
    lamplighterref05_number.l1 k base t v (q : Int) = some (numRes (vfold s base (j + q) n v) (decide (0 < t.size))) := by
  intro n; induction n with
  | zero =>
    intro k q v h1 h2 h3 hv0 hv1
    cases k with
    | zero => omega
    | succ k =>
      unfold lamplighterref05_number.l1
      rw [if_neg (by omega)]
      rw [vfold_zero, numRes, if_neg (by omega)]
      congr 2
      rw [decide_eq_decide]
      omega
  | succ n ih =>
    intro k q v h1 h2 h3 hv0 hv1
    cases k with
    | zero => omega
    | succ k =>
      have hq : q < t.size := by omega
      have hr := Lx.bt_range t q
      have hm0 : 0 ≤ v * base := Int.mul_nonneg hv0 (by omega)
      have hm1 : v * base ≤ v * 16 := Int.mul_le_mul_of_nonneg_left (by omega) hv0
      have hx := Lx.hexV_range (Lx.bt t q)
      have hd := hok q hq
      unfold lamplighterref05_number.l1
      rw [if_pos (by omega), if_pos (by omega), bt_nat, digit_eq, Option.bind_some, w64 q (by omega)]
      rw [vfold_succ, ← hbt q hq]
      have key : ∀ e : Int, hexV (Lx.bt t q) = e → 0 ≤ e → e ≤ 15 →
          (if IntKind.u64.wrap (v * base + e) ≥ 4294967296 then (some (0, false) : Option (Int × Bool)) else lamplighterref05_number.l1 k base t (IntKind.u64.wrap (v * base + e)) ((q + 1 : Nat) : Int)) =
          some (numRes (vfold s base (j + q + 1) n (min (v * base + hexV (Lx.bt t q)) 4294967296)) (decide (0 < t.size))) := by
        intro e he h0 h15
        rw [he, u64_id _ (by omega) (by omega)]
        by_cases ho : 4294967296 ≤ v * base + e
        · rw [if_pos ho]
          have : min (v * base + e) 4294967296 = 4294967296 := by omega
          rw [this, vfold_top s base (by omega)]; rfl
        · rw [if_neg ho]
          have : min (v * base + e) 4294967296 = v * base + e := by omega
          rw [this, ih k (q + 1) (v * base + e) (by omega) (by omega) (by omega) (by omega) (by omega)]
          rfl
      by_cases hdg : digB (Lx.bt t q) = true
      · rw [if_pos hdg]
        have hc : 48 ≤ Lx.bt t q ∧ Lx.bt t q ≤ 57 := by simpa [digB] using hdg
        have hv : hexV (Lx.bt t q) = Lx.bt t q - 48 := by simp [hexV, hdg]
        rw [u64_id (base) (by omega) (by omega), u64_id (v * base) (by omega) (by omega), u64_id (Lx.bt t q) (by omega) (by omega), u64_id (Lx.bt t q - 48) (by omega) (by omega)]
        exact key _ hv (by omega) (by omega)
      · rw [if_neg hdg]
        have hc : base = 16 ∧ 97 ≤ Lx.bt t q ∧ Lx.bt t q ≤ 102 := by
          rcases hb with rfl | rfl
          · rw [dOk_ten] at hd; exact absurd hd hdg
          · rw [dOk_hex] at hd
            refine ⟨rfl, ?_⟩
            simpa [hdg] using hd
        have hv : hexV (Lx.bt t q) = Lx.bt t q - 97 + 10 := by simp [hexV, hdg, hc.2.1, hc.2.2]; omega
        rw [u64_id (base) (by omega) (by omega), u64_id (v * base) (by omega) (by omega), u64_id (Lx.bt t q) (by omega) (by omega), u64_id (Lx.bt t q - 97) (by omega) (by omega), u64_id (Lx.bt t q - 97 + 10) (by omega) (by omega)]
        exact key _ hv (by omega) (by omega)
/-- The reference's first loop: only digits. -/
theorem num_good_digits (t : ByteArray) (base : Int) (hb : base = 10 ∨ base = 16) (ht : t.size < 9223372036854775000) (R : Option (Int × Bool)) (hR : ∀ k, t.size < k → lamplighterref05_number.l1 k base t 0 0 = R) (hok : ∀ q, q < t.size → dOk base (Lx.bt t q) = true) :
    ∀ (n k q : Nat), t.size - q = n → n + t.size + 1 < k → q ≤ t.size → lamplighterref05_number.l0 k base t (q : Int) = R := by
  intro n; induction n with
  | zero =>
    intro k q h1 h2 h3
    cases k with
    | zero => omega
    | succ k =>
      unfold lamplighterref05_number.l0
      rw [if_neg (by omega)]
      exact hR k (by omega)
  | succ n ih =>
    intro k q h1 h2 h3
    cases k with
    | zero => omega
    | succ k =>
      have hq : q < t.size := by omega
      have hd := hok q hq
      unfold lamplighterref05_number.l0
      rw [if_pos (by omega), if_pos (by omega), bt_nat, digit_eq, Option.bind_some, w64 q (by omega), ih k (q + 1) (by omega) (by omega) (by omega)]
      by_cases hdg : digB (Lx.bt t q) = true
      · rw [if_pos hdg]
      · rw [if_neg hdg]
        have hc : base = 16 ∧ 97 ≤ Lx.bt t q ∧ Lx.bt t q ≤ 102 := by
          rcases hb with rfl | rfl
          · rw [dOk_ten] at hd; exact absurd hd hdg
          · rw [dOk_hex] at hd
            refine ⟨rfl, ?_⟩
            simpa [hdg] using hd
        rw [if_neg (by omega), if_neg (by omega), if_neg (by omega)]
theorem num_bad_digits (t : ByteArray) (base : Int) (hb : base = 10 ∨ base = 16) (ht : t.size < 9223372036854775000) (b : Nat) (hbl : b < t.size) (hbad : dOk base (Lx.bt t b) = false) :
    ∀ (n k q : Nat), b - q = n → n < k → q ≤ b → lamplighterref05_number.l0 k base t (q : Int) = some (0, false) := by
  intro n; induction n with
  | zero =>
    intro k q h1 h2 h3
    obtain rfl : q = b := by omega
    cases k with
    | zero => omega
    | succ k =>
      unfold lamplighterref05_number.l0
      rw [if_pos (by omega), if_pos (by omega), bt_nat, digit_eq, Option.bind_some]
      rcases hb with rfl | rfl
      · rw [dOk_ten] at hbad
        rw [hbad, if_neg (by simp), if_pos rfl]
      · rw [dOk_hex, Bool.or_eq_false_iff] at hbad
        rw [hbad.1, if_neg (by simp), if_neg (by omega)]
        have := hbad.2
        rw [Bool.and_eq_false_iff, decide_eq_false_iff_not, decide_eq_false_iff_not] at this
        by_cases h97 : Lx.bt t q < 97
        · rw [if_pos h97]
        · rw [if_neg h97, if_pos (by omega)]
  | succ n ih =>
    intro k q h1 h2 h3
    cases k with
    | zero => omega
    | succ k =>
      unfold lamplighterref05_number.l0
      rw [if_pos (by omega), if_pos (by omega), bt_nat, digit_eq, Option.bind_some, w64 q (by omega), ih k (q + 1) (by omega) (by omega) (by omega)]
      split
      · rfl
      · split
        · rfl
        · split
          · rfl
          · split <;> rfl
end Go.Proofs.YtgkhpecllhiidaaDoor.Q
