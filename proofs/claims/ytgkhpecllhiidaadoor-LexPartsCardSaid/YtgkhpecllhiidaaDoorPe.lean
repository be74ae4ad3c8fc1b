/- Plain laws of the reference of chapter 5: the token at a place. -/
import Derived.Test.YtgkhpecllhiidaaDoorPd
import Derived.Test.YtgkhpecllhiidaaDoorHh
set_option linter.unusedVariables false
set_option linter.unusedSimpArgs false
namespace Go.Proofs.YtgkhpecllhiidaaDoor.Q
open Go.RowKit Go.Proofs.YtgkhpecllhiidaaDoorW.PrintWords Go.Proofs.YtgkhpecllhiidaaDoorW.PrintLast Go.Proofs.YtgkhpecllhiidaaDoorW.PrintMore
open Lx (letB digB wcB allW kindOf isKey keyList hexOk hexV nscan numStop isHex numScan numAt wscan wordLen signLen)

def tokRes (s : ByteArray) (i : Nat) : Int × ByteArray × Int × Int × Int :=
  if letB (Lx.bt s i) then (kindOf (s.extract i (i + wordLen s i)), s.extract i (i + wordLen s i), 0, 0, 0)
  else if digB (Lx.bt s i) then match numAt s i with
    | none => (0, ⟨#[]⟩, 0, 0, 0)
    | some nv => (3, s.extract i (i + nv.1), 0, 0, nv.2)
  else if signLen s i = 0 then (0, ⟨#[]⟩, 0, 0, 0) else (4, s.extract i (i + signLen s i), 0, 0, 0)
theorem tok_run (x : ByteArray) (hx : x.size < 9223372036854775000) : ∀ (m k q : Nat), (∀ p, p < m → wcB (Lx.bt x (q + p)) = true) → wcB (Lx.bt x (q + m)) = false → q + m ≤ x.size →
    lamplighterref05_token.l0 (k + m + 1) x (q : Int) = lamplighterref05_token.j1 k x ((q + m : Nat) : Int) := by
  intro m; induction m with
  | zero =>
    intro k q h1 h2 h3
    unfold lamplighterref05_token.l0
    rw [Nat.add_zero] at h2
    unfold wcB at h2; rw [Bool.or_eq_false_iff] at h2
    by_cases hq : q < x.size
    · rw [if_pos (by omega), if_pos (by omega), bt_nat, letter_eq, digit_eq, h2.1, h2.2]; rfl
    · rw [if_neg (by omega)]; rfl
  | succ m ih =>
    intro k q h1 h2 h3
    have hw := h1 0 (by omega)
    rw [Nat.add_zero] at hw
    have hq : q < x.size := by omega
    rw [show k + (m + 1) + 1 = (k + m + 1) + 1 from by omega]
    unfold lamplighterref05_token.l0
    rw [if_pos (by omega), if_pos (by omega), bt_nat, letter_eq, digit_eq, w64 q (by omega), ih k (q + 1) (fun p hp => by have := h1 (p + 1) (by omega); rwa [show q + (p + 1) = q + 1 + p from by omega] at this) (by rwa [show q + (m + 1) = q + 1 + m from by omega] at h2) (by omega)]
    rw [show q + 1 + m = q + (m + 1) from by omega]
    unfold wcB at hw; rw [Bool.or_eq_true] at hw
    simp only [Option.bind_some]
    by_cases hl : letB (Lx.bt x q) = true
    · rw [if_pos hl]
    · rw [if_neg hl, if_pos (by rcases hw with h | h; exact absurd h hl; exact h)]
theorem sign_loop (x : ByteArray) (ks : List ByteArray) (hk : ks.length < 9223372036854775000) : ∀ (n k j : Nat), ks.length - j ≤ n → n < k → j ≤ ks.length →
    lamplighterref05_token.l1 k x ks (j : Int) = some (match (ks.drop j).find? (hp x) with | some t => (4, t, 0, 0, 0) | none => (0, ⟨#[]⟩, 0, 0, 0)) := by
  intro n; induction n with
  | zero =>
    intro k j h1 h2 h3
    cases k with
    | zero => omega
    | succ k =>
      unfold lamplighterref05_token.l1
      rw [if_neg (by omega), List.drop_of_length_le (by omega)]
      rfl
  | succ n ih =>
    intro k j h1 h2 h3
    cases k with
    | zero => omega
    | succ k =>
      unfold lamplighterref05_token.l1
      by_cases hj : j < ks.length
      · have hr : rdOf ByteArray.empty ks (j : Int) = ks[j] := by
          unfold rdOf
          rw [Int.toNat_natCast, List.getD_eq_getElem?_getD, List.getElem?_eq_getElem hj]; rfl
        rw [if_pos (by omega), if_pos (by omega), hr, w64 j (by omega), ih k (j + 1) (by omega) (by omega) (by omega), List.drop_eq_getElem_cons hj, List.find?_cons, hp_eq, Option.bind_some]
        cases hp x ks[j] <;> rfl
      · rw [if_neg (by omega), List.drop_of_length_le (by omega)]
        rfl
theorem tok_j1 (k : Nat) (x : ByteArray) (n : Int) : lamplighterref05_token.j1 (k + 1) x n = if n > 0 then (if 0 < (x.size : Int) then ((lamplighterref05_digit.f (Go.Proofs.YtgkhpecllhiidaaDoorW.PrintWords.bt x 0)).bind fun t => (lamplighterref05_token.j2 k x n t)) else (none)) else (lamplighterref05_token.j2 k x n false) := rfl
theorem tok_j2 (k : Nat) (x : ByteArray) (n : Int) (b : Bool) : lamplighterref05_token.j2 (k + 1) x n b = if b = true then (if 0 ≤ n then (if n ≤ (x.size : Int) then ((lamplighterref05_number.f k (x.extract 0 (n : Int).toNat)).bind fun bt164 => (if bt164.2 = true then (if n < (x.size : Int) then (if (Go.Proofs.YtgkhpecllhiidaaDoorW.PrintWords.bt x n) ≥ 65 then (if (Go.Proofs.YtgkhpecllhiidaaDoorW.PrintWords.bt x n) ≤ 90 then (some (0, (⟨#[]⟩ : ByteArray), 0, 0, 0)) else (some (3, x.extract 0 (n : Int).toNat, 0, 0, bt164.1))) else (some (3, x.extract 0 (n : Int).toNat, 0, 0, bt164.1))) else (some (3, x.extract 0 (n : Int).toNat, 0, 0, bt164.1))) else (some (0, (⟨#[]⟩ : ByteArray), 0, 0, 0)))) else (none)) else (none)) else (if n > 0 then (if 0 ≤ n then (if n ≤ (x.size : Int) then ((lamplighterref05_Kind.f k (x.extract 0 (n : Int).toNat)).bind fun t166 => (some (t166, x.extract 0 (n : Int).toNat, 0, 0, 0))) else (none)) else (none)) else ((lamplighterref05_signs.f).bind fun t167 => (lamplighterref05_token.l1 k x t167 0))) := rfl
theorem token_eq (s : ByteArray) (i : Nat) (hs : s.size < 9223372036854770000) (hi : i < s.size) (k : Nat) (hk : 4 * s.size + 100 < k) :
    lamplighterref05_token.f k (s.extract i s.size) = some (tokRes s i) := by
  have hsz : (s.extract i s.size).size = s.size - i := by simp
  unfold lamplighterref05_token.f tokRes
  by_cases hw : wcB (Lx.bt s i) = true
  · have R := run_at s i hw
    have hfit := R.fit
    have hpos := R.pos
    generalize hn : wordLen s i = n at *
    obtain ⟨k, rfl⟩ : ∃ k', k = k' + n + 1 := ⟨k - n - 1, by omega⟩
    have h0 := tok_run (s.extract i s.size) (by omega) n k 0 (fun p hp => by rw [bt_tail s i _ (by omega), Nat.zero_add]; exact R.all p hp) (by rw [bt_tail s i _ (by omega), Nat.zero_add]; exact R.stop) (by omega)
    rw [Nat.zero_add] at h0
    show lamplighterref05_token.l0 _ _ ((0 : Nat) : Int) = _
    rw [h0]
    cases k with
    | zero => omega
    | succ k =>
    rw [tok_j1]
    have hb0 : Go.Proofs.YtgkhpecllhiidaaDoorW.PrintWords.bt (s.extract i s.size) 0 = Lx.bt s i := by
      have := bt_tail s i 0 (by omega)
      rw [Nat.add_zero] at this
      exact this
    rw [if_pos (by omega), if_pos (by omega), hb0, digit_eq, Option.bind_some]
    cases k with
    | zero => omega
    | succ k =>
    rw [tok_j2]
    have hp := piece_tail s i n hfit
    rw [hsz, Int.toNat_natCast, hp]
    cases hd : digB (Lx.bt s i)
    · have hl : letB (Lx.bt s i) = true := by
        unfold wcB at hw; rw [hd, Bool.or_false] at hw; exact hw
      have hk0 := kind_eq (s.extract i (i + n)) (by simp; omega) k (by simp; omega)
      rw [if_neg (by simp), if_pos (by omega), if_pos (by omega), if_pos (by omega), hk0, Option.bind_some, if_pos hl]
    · have hl : letB (Lx.bt s i) = false := by
        have hc : 48 ≤ Lx.bt s i ∧ Lx.bt s i ≤ 57 := by simpa [digB] using hd
        have h1 : decide (97 ≤ Lx.bt s i) = false := by rw [decide_eq_false_iff_not]; omega
        have h2 : (Lx.bt s i == 95) = false := by rw [beq_eq_false_iff_ne]; omega
        simp [letB, h1, h2]
      obtain ⟨v, b, h1, h2⟩ := number_at s i n (by omega) R k (by omega)
      rw [if_pos rfl, if_pos (by omega), if_pos (by omega), h1, Option.bind_some, h2, hl]
      simp only [Bool.false_eq_true, if_false, if_true]
      cases b
      · simp
      · simp only [if_true, Bool.true_and]
        have hbn : Go.Proofs.YtgkhpecllhiidaaDoorW.PrintWords.bt (s.extract i s.size) (n : Int) = Lx.bt s (i + n) := by rw [bt_nat, bt_tail s i n (by omega)]
        rw [hbn]
        unfold upper
        by_cases ha : (n : Int) < ((s.size - i : Nat) : Int)
        · rw [if_pos ha]
          by_cases h65 : 65 ≤ Lx.bt s (i + n)
          · rw [if_pos h65]
            by_cases h90 : Lx.bt s (i + n) ≤ 90
            · rw [if_pos h90]; simp [h65, h90]
            · rw [if_neg h90]; simp [h65, h90]
          · rw [if_neg h65]; simp [h65]
        · rw [if_neg ha, Lx.bt_out s (i + n) (by omega)]
          simp
  · have hwf : wcB (Lx.bt s i) = false := by simpa using hw
    have hld := hwf
    unfold wcB at hld; rw [Bool.or_eq_false_iff] at hld
    obtain ⟨k, rfl⟩ : ∃ k', k = k' + 0 + 1 := ⟨k - 1, by omega⟩
    have h0 := tok_run (s.extract i s.size) (by omega) 0 k 0 (fun p hp => by omega) (by rw [bt_tail s i _ (by omega)]; exact hwf) (by omega)
    show lamplighterref05_token.l0 _ _ ((0 : Nat) : Int) = _
    rw [h0]
    cases k with
    | zero => omega
    | succ k =>
    rw [tok_j1]
    rw [if_neg (by omega)]
    cases k with
    | zero => omega
    | succ k =>
    rw [tok_j2]
    rw [if_neg (by simp), if_neg (by omega), signs_eq, Option.bind_some, hld.1, hld.2, if_neg (by simp), if_neg (by simp)]
    show lamplighterref05_token.l1 k _ _ ((0 : Nat) : Int) = _
    rw [sign_loop _ signL (by decide) 27 k 0 (by decide) (by omega) (by omega), List.drop_zero, sign_find s i hi]
    by_cases h : signLen s i = 0
    · rw [if_pos h, if_pos h]
    · rw [if_neg h, if_neg h]
end Go.Proofs.YtgkhpecllhiidaaDoor.Q
