/- The contract of lex.number. -/
import Derived.Test.YtnjnadlgndjnbaaDoorYHd
set_option linter.unusedVariables false
set_option linter.unusedSimpArgs false
namespace Go.Proofs.YtnjnadlgndjnbaaDoor.Lx
open Go.RowKit Go.Proofs.YtnjnadlgndjnbaaDoorW.PrintLast
def nscan (s : ByteArray) (base : Int) : Nat → Nat → Int → Int → Nat × Int × Int
  | 0, j, d, v => (j, d, v)
  | f + 1, j, d, v => if hexOk (bt s j) = true ∧ hexV (bt s j) < base then nscan s base f (j + 1) (d + 1) (min (v * base + hexV (bt s j)) 4294967296) else (j, d, v)
def numStop (s : ByteArray) (r : Nat × Int × Int) : Bool := r.2.1 == 0 || decide (4294967296 ≤ r.2.2) || letB (bt s r.1) || digB (bt s r.1) || (decide (65 ≤ bt s r.1) && decide (bt s r.1 ≤ 90))
def isHex (s : ByteArray) (i : Nat) : Bool := bt s i == 48 && bt s (i + 1) == 120
def numScan (s : ByteArray) (i : Nat) : Nat × Int × Int := if isHex s i then nscan s 16 (s.size + 3) (i + 2) 0 0 else nscan s 10 (s.size + 3) i 0 0
def numAt (s : ByteArray) (i : Nat) : Option (Nat × Int) := if numStop s (numScan s i) then none else some ((numScan s i).1 - i, (numScan s i).2.2)
theorem hexV_range (c : Int) : 0 ≤ hexV c ∧ hexV c ≤ 15 := by unfold hexV digB; split <;> (try split) <;> simp_all <;> omega
theorem hexOk_zero : hexOk 0 = false := by decide
theorem hexOk_lt (s : ByteArray) (i : Nat) (h : hexOk (bt s i) = true) : i < s.size := by
  rcases Nat.lt_or_ge i s.size with h' | h'
  · exact h'
  · rw [bt_out s i h', hexOk_zero] at h; cases h
def NumPost (B g : Nat) (s : ByteArray) (i : Nat) (line col : Int) (l : List Tk) (bad : Bool) (w : World) (e : Ending) (w' : World) : Prop :=
  Below B w w' ∧ match numAt s i with
    | none => e = .returned .nilFunc ∧ LexAt B w' g s i line col l true
    | some (n, v) => e = .returned (.func (.func 53) #[] #[]) ∧ i + n ≤ s.size ∧ LexAt B w' g s ((i : Int) + (n : Nat)) (adv s i (line, col) n).1 (adv s i (line, col) n).2 (l ++ [⟨3, s.extract i (i + n), line, col, v⟩]) bad
theorem LexAt.setBad {B : Nat} {w : World} {g : Nat} {s : ByteArray} {i line col : Int} {l : List Tk} {bad : Bool} (h : LexAt B w g s i line col l bad) : LexAt B (w.setCell ⟨g, 5, none⟩ (.bool true)) g s i line col l true := by
  obtain ⟨hB, v, h1, h2, h3⟩ := h
  exact ⟨hB, v, h1.set5 true, h2.kept (grown_set (World.grownBy.refl w (some g)) 5 _) (.inr h3), h3⟩
theorem num_none {s : ByteArray} {i : Nat} {r : Nat × Int × Int} (h : numScan s i = r) (hst : numStop s r = true) : numAt s i = none := by simp [numAt, h, hst]
theorem num_some {s : ByteArray} {i n : Nat} {dg vl : Int} (h : numScan s i = (i + n, dg, vl)) (hst : numStop s (i + n, dg, vl) = false) : numAt s i = some (n, vl) := by simp [numAt, h, hst]
theorem num_bad {B g : Nat} {s : ByteArray} {i : Nat} {line col : Int} {l : List Tk} {bad : Bool} {w : World} (hA : LexAt B w g s i line col l bad) (k : Nat) (hn : numAt s i = none) : NumPost B g s i line col l bad w (.returned .nilFunc) ((w.setCell ⟨g, 5, none⟩ (.bool true)).drewN k) := by
  refine ⟨((Below.refl B w).setCell (p := ⟨g, 5, none⟩) hA.hB _).trans (below_drewN' _ _ _), ?_⟩
  rw [hn]
  exact ⟨rfl, hA.setBad.of_grown (below_drewN _ _)⟩
theorem num_good {B g : Nat} {s : ByteArray} {i n : Nat} {line col vl : Int} {l : List Tk} {bad : Bool} {w W : World} (hn : numAt s i = some (n, vl)) (hin : i + n ≤ s.size)
    (hA : LexAt B W g s ((i : Int) + n) (adv s i (line, col) n).1 (adv s i (line, col) n).2 (l ++ [⟨3, s.extract i (i + n), line, col, vl⟩]) bad) (hb : Below B w W) : NumPost B g s i line col l bad w (.returned (.func (.func 53) #[] #[])) W := by
  refine ⟨hb, ?_⟩
  rw [hn]
  exact ⟨rfl, hin, hA⟩
set_option maxRecDepth 100000 in
set_option maxHeartbeats 2000000 in
theorem number_hex (B g : Nat) (s : ByteArray) (i : Nat) (line col : Int) (l : List Tk) (bad : Bool) (w : World) (hs : s.size ≤ 140737488351232) (hi : i < s.size) (hx : isHex s i = true) (hl : l.length ≤ 1048576)
    (hl0 : 0 ≤ line) (hl1 : line ≤ 140737488351233) (hk0 : 0 ≤ col) (hk1 : col ≤ 140737488351233) (h : LexAt B w g s i line col l bad) :
    Calls Tryd.prog 70 #[.pointer (some ⟨g, 0, none⟩)] w (NumPost B g s i line col l bad w) := by
  have HA := Hd.mk h
  obtain ⟨hBg, v, hS, hown, hne⟩ := h
  have HS := Hd.mk hS
  clear hS hown
  have hsc : numScan s i = nscan s 16 (s.size + 3) (i + 2) 0 0 := by simp [numScan, hx]
  have HSC := Hd.mk hsc
  clear hsc
  have h48 : bt s i = 48 := by simp [isHex] at hx; exact hx.1
  have h120 : bt s (i + 1) = 120 := by simp [isHex] at hx; exact hx.2
  have hb1 : i + 1 < s.size := by
    rcases Nat.lt_or_ge (i + 1) s.size with h' | h'
    · exact h'
    · rw [bt_out s _ h'] at h120; omega
  clear hx
  all_goals
    go_enter Tryd.func70, Tryd.ntmps70
    go_wp2_with (first | (go_at_call 65; (refine (now_int g s i _ line col v bad _ hs (by omega) (by omega) (by omega) (by omega) (by exact HS.out)).mono ?_); rintro e w' ⟨rfl, m1, rfl⟩) | (go_at_call 78; refine (hex_any _ _ (bt_range _ _).1 (bt_range _ _).2).mono ?_; rintro e w' ⟨rfl, rfl⟩) | (go_at_call 67; refine (letter_any _ _).mono ?_; rintro e w' ⟨rfl, rfl⟩) | (go_at_call 69; refine (digit_any _ _).mono ?_; rintro e w' ⟨rfl, rfl⟩))
    go_loopw [3, 5, 6] (fun t d x wr => ∃ (n m f : Nat) (dg vl : Int), 2 ≤ n ∧ i + n ≤ s.size + 2 ∧ t = .int .i64 n ∧ d = .int .i64 dg ∧ x = .int .u64 vl ∧ wr = w.drewN m ∧ 0 ≤ dg ∧ dg ≤ n ∧ (dg = 0 ∨ i + n ≤ s.size) ∧ 0 ≤ vl ∧ vl ≤ 4294967296 ∧ f + n = s.size + 3 + 2 ∧ Hd (nscan s 16 f (i + n) dg vl = numScan s i)) (fun t _ _ _ => s.size + 3 - (intOf t).toNat)
    case atStart => exact ⟨2, _, s.size + 3, 0, 0, by omega, by omega, rfl, rfl, rfl, rfl, by omega, by omega, .inl rfl, by omega, by omega, by omega, ⟨by rw [HSC.out]⟩⟩
    case round =>
      obtain ⟨n, m, f, dg, vl, hn0, hn1, rfl, rfl, rfl, rfl, hd0, hd1, hd2, hv0, hv1, hf, hsc⟩ := hrel
      have hr := hexV_range (bt s (i + n))
      have hc5 := HS.out.c5
      have hf5 := HS.out.fr 5
      obtain ⟨f, rfl⟩ : ∃ f', f = f' + 1 := ⟨f - 1, by omega⟩
      by_cases hgo : hexOk (bt s (i + n)) = true ∧ hexV (bt s (i + n)) < 16
      · have hlt' := hexOk_lt s (i + n) hgo.1
        have Hn : Hd (nscan s 16 f (i + (n + 1)) (dg + 1) (min (vl * 16 + hexV (bt s (i + n))) 4294967296) = numScan s i) := ⟨by rw [← hsc.out]; simp [nscan, hgo, Nat.add_assoc]⟩
        obtain ⟨hg1, hg2⟩ := hgo
        clear hsc
        go_wp2_with (first | (go_at_call 65; (refine (now_any g s i n line col v bad _ hs (by omega) (by omega) (by exact HS.out)).mono ?_); rintro e w' ⟨rfl, m1, rfl⟩) | (go_at_call 78; refine (hex_any _ _ (bt_range _ _).1 (bt_range _ _).2).mono ?_; rintro e w' ⟨rfl, rfl⟩) | (go_at_call 67; refine (letter_any _ _).mono ?_; rintro e w' ⟨rfl, rfl⟩) | (go_at_call 69; refine (digit_any _ _).mono ?_; rintro e w' ⟨rfl, rfl⟩))
        refine ⟨⟨n + 1, _, f, dg + 1, _, by omega, by omega, by go_num, rfl, rfl, rfl, by omega, by omega, .inr (by omega), ?_, ?_, by omega, ⟨?_⟩⟩, by simp [intOf]; omega⟩
        · split <;> omega
        · split <;> omega
        · rw [show (if 4294967296 < vl * 16 + hexV (bt s (i + n)) then 4294967296 else vl * 16 + hexV (bt s (i + n))) = min (vl * 16 + hexV (bt s (i + n))) 4294967296 from by split <;> omega]
          exact Hn.out
      · have Hk : Hd (numScan s i = (i + n, dg, vl)) := ⟨by rw [← hsc.out]; simp only [nscan, if_neg hgo]⟩
        clear hsc
        cases hg1 : hexOk (bt s (i + n))
        rotate_left
        · have hg2 : 16 ≤ hexV (bt s (i + n)) := by
            rcases Int.lt_or_le (hexV (bt s (i + n))) 16 with h | h
            · exact absurd ⟨hg1, h⟩ hgo
            · exact h
          clear hgo
          go_wp2_with (first | (go_at_call 65; (refine (now_any g s i n line col v bad _ hs (by omega) (by omega) (by exact HS.out)).mono ?_); rintro e w' ⟨rfl, m1, rfl⟩) | (go_at_call 78; refine (hex_any _ _ (bt_range _ _).1 (bt_range _ _).2).mono ?_; rintro e w' ⟨rfl, rfl⟩) | (go_at_call 67; refine (letter_any _ _).mono ?_; rintro e w' ⟨rfl, rfl⟩) | (go_at_call 69; refine (digit_any _ _).mono ?_; rintro e w' ⟨rfl, rfl⟩) | (go_at_call 77; (refine (token_any B g s i n line col 3 vl l bad _ hs (by omega) hl hl0 hl1 hk0 hk1 (HA.out.of_grown (below_drewN w _))).mono ?_); rintro e w3 ⟨rfl, hA3, hB3⟩))
          all_goals first
            | (go_ret
               exact num_bad HA.out _ (num_none Hk.out (by simp only [numStop, Bool.or_eq_true, Bool.or_eq_false_iff, Bool.and_eq_true, Bool.and_eq_false_iff, beq_iff_eq, beq_eq_false_iff_ne, decide_eq_true_eq, decide_eq_false_iff_not] at *; first | omega | (simp_all; done) | (simp_all; omega))))
            | (go_ret
               exact num_good (num_some Hk.out (by simp only [numStop, Bool.or_eq_true, Bool.or_eq_false_iff, Bool.and_eq_true, Bool.and_eq_false_iff, beq_iff_eq, beq_eq_false_iff_ne, decide_eq_true_eq, decide_eq_false_iff_not] at *; first | omega | (simp_all; done) | (simp_all; omega))) (by omega) hA3 ((below_drewN' w _ B).trans hB3))
        · clear hgo
          go_wp2_with (first | (go_at_call 65; (refine (now_any g s i n line col v bad _ hs (by omega) (by omega) (by exact HS.out)).mono ?_); rintro e w' ⟨rfl, m1, rfl⟩) | (go_at_call 78; refine (hex_any _ _ (bt_range _ _).1 (bt_range _ _).2).mono ?_; rintro e w' ⟨rfl, rfl⟩) | (go_at_call 67; refine (letter_any _ _).mono ?_; rintro e w' ⟨rfl, rfl⟩) | (go_at_call 69; refine (digit_any _ _).mono ?_; rintro e w' ⟨rfl, rfl⟩) | (go_at_call 77; (refine (token_any B g s i n line col 3 vl l bad _ hs (by omega) hl hl0 hl1 hk0 hk1 (HA.out.of_grown (below_drewN w _))).mono ?_); rintro e w3 ⟨rfl, hA3, hB3⟩))
          all_goals first
            | (go_ret
               exact num_bad HA.out _ (num_none Hk.out (by simp only [numStop, Bool.or_eq_true, Bool.or_eq_false_iff, Bool.and_eq_true, Bool.and_eq_false_iff, beq_iff_eq, beq_eq_false_iff_ne, decide_eq_true_eq, decide_eq_false_iff_not] at *; first | omega | (simp_all; done) | (simp_all; omega))))
            | (go_ret
               exact num_good (num_some Hk.out (by simp only [numStop, Bool.or_eq_true, Bool.or_eq_false_iff, Bool.and_eq_true, Bool.and_eq_false_iff, beq_iff_eq, beq_eq_false_iff_ne, decide_eq_true_eq, decide_eq_false_iff_not] at *; first | omega | (simp_all; done) | (simp_all; omega))) (by omega) hA3 ((below_drewN' w _ B).trans hB3))
set_option maxRecDepth 100000 in
set_option maxHeartbeats 2000000 in
theorem number_dec1 (B g : Nat) (s : ByteArray) (i : Nat) (line col : Int) (l : List Tk) (bad : Bool) (w : World) (hs : s.size ≤ 140737488351232) (hi : i < s.size) (hx : isHex s i = false) (h48 : bt s i = 48) (hl : l.length ≤ 1048576)
    (hl0 : 0 ≤ line) (hl1 : line ≤ 140737488351233) (hk0 : 0 ≤ col) (hk1 : col ≤ 140737488351233) (h : LexAt B w g s i line col l bad) :
    Calls Tryd.prog 70 #[.pointer (some ⟨g, 0, none⟩)] w (NumPost B g s i line col l bad w) := by
  have HA := Hd.mk h
  obtain ⟨hBg, v, hS, hown, hne⟩ := h
  have HS := Hd.mk hS
  clear hS hown
  have hsc : numScan s i = nscan s 10 (s.size + 3) (i + 0) 0 0 := by simp [numScan, hx]
  have HSC := Hd.mk hsc
  clear hsc
  have h48' : bt s i = 48 := h48
  have h120 : (bt s (i + 1) == 120) = false := by simp [isHex, h48] at hx; simpa using hx
  clear hx h48
  all_goals
    go_enter Tryd.func70, Tryd.ntmps70
    go_wp2_with (first | (go_at_call 65; (refine (now_int g s i _ line col v bad _ hs (by omega) (by omega) (by omega) (by omega) (by exact HS.out)).mono ?_); rintro e w' ⟨rfl, m1, rfl⟩) | (go_at_call 78; refine (hex_any _ _ (bt_range _ _).1 (bt_range _ _).2).mono ?_; rintro e w' ⟨rfl, rfl⟩) | (go_at_call 67; refine (letter_any _ _).mono ?_; rintro e w' ⟨rfl, rfl⟩) | (go_at_call 69; refine (digit_any _ _).mono ?_; rintro e w' ⟨rfl, rfl⟩))
    go_loopw [3, 5, 6] (fun t d x wr => ∃ (n m f : Nat) (dg vl : Int), 0 ≤ n ∧ i + n ≤ s.size + 0 ∧ t = .int .i64 n ∧ d = .int .i64 dg ∧ x = .int .u64 vl ∧ wr = w.drewN m ∧ 0 ≤ dg ∧ dg ≤ n ∧ (dg = 0 ∨ i + n ≤ s.size) ∧ 0 ≤ vl ∧ vl ≤ 4294967296 ∧ f + n = s.size + 3 + 0 ∧ Hd (nscan s 10 f (i + n) dg vl = numScan s i)) (fun t _ _ _ => s.size + 3 - (intOf t).toNat)
    case atStart => exact ⟨0, _, s.size + 3, 0, 0, by omega, by omega, rfl, rfl, rfl, rfl, by omega, by omega, .inl rfl, by omega, by omega, by omega, ⟨by rw [HSC.out]⟩⟩
    case round =>
      obtain ⟨n, m, f, dg, vl, hn0, hn1, rfl, rfl, rfl, rfl, hd0, hd1, hd2, hv0, hv1, hf, hsc⟩ := hrel
      have hr := hexV_range (bt s (i + n))
      have hc5 := HS.out.c5
      have hf5 := HS.out.fr 5
      obtain ⟨f, rfl⟩ : ∃ f', f = f' + 1 := ⟨f - 1, by omega⟩
      by_cases hgo : hexOk (bt s (i + n)) = true ∧ hexV (bt s (i + n)) < 10
      · have hlt' := hexOk_lt s (i + n) hgo.1
        have Hn : Hd (nscan s 10 f (i + (n + 1)) (dg + 1) (min (vl * 10 + hexV (bt s (i + n))) 4294967296) = numScan s i) := ⟨by rw [← hsc.out]; simp [nscan, hgo, Nat.add_assoc]⟩
        obtain ⟨hg1, hg2⟩ := hgo
        clear hsc
        go_wp2_with (first | (go_at_call 65; (refine (now_any g s i n line col v bad _ hs (by omega) (by omega) (by exact HS.out)).mono ?_); rintro e w' ⟨rfl, m1, rfl⟩) | (go_at_call 78; refine (hex_any _ _ (bt_range _ _).1 (bt_range _ _).2).mono ?_; rintro e w' ⟨rfl, rfl⟩) | (go_at_call 67; refine (letter_any _ _).mono ?_; rintro e w' ⟨rfl, rfl⟩) | (go_at_call 69; refine (digit_any _ _).mono ?_; rintro e w' ⟨rfl, rfl⟩))
        refine ⟨⟨n + 1, _, f, dg + 1, _, by omega, by omega, by go_num, rfl, rfl, rfl, by omega, by omega, .inr (by omega), ?_, ?_, by omega, ⟨?_⟩⟩, by simp [intOf]; omega⟩
        · split <;> omega
        · split <;> omega
        · rw [show (if 4294967296 < vl * 10 + hexV (bt s (i + n)) then 4294967296 else vl * 10 + hexV (bt s (i + n))) = min (vl * 10 + hexV (bt s (i + n))) 4294967296 from by split <;> omega]
          exact Hn.out
      · have Hk : Hd (numScan s i = (i + n, dg, vl)) := ⟨by rw [← hsc.out]; simp only [nscan, if_neg hgo]⟩
        clear hsc
        cases hg1 : hexOk (bt s (i + n))
        rotate_left
        · have hg2 : 10 ≤ hexV (bt s (i + n)) := by
            rcases Int.lt_or_le (hexV (bt s (i + n))) 10 with h | h
            · exact absurd ⟨hg1, h⟩ hgo
            · exact h
          clear hgo
          go_wp2_with (first | (go_at_call 65; (refine (now_any g s i n line col v bad _ hs (by omega) (by omega) (by exact HS.out)).mono ?_); rintro e w' ⟨rfl, m1, rfl⟩) | (go_at_call 78; refine (hex_any _ _ (bt_range _ _).1 (bt_range _ _).2).mono ?_; rintro e w' ⟨rfl, rfl⟩) | (go_at_call 67; refine (letter_any _ _).mono ?_; rintro e w' ⟨rfl, rfl⟩) | (go_at_call 69; refine (digit_any _ _).mono ?_; rintro e w' ⟨rfl, rfl⟩) | (go_at_call 77; (refine (token_any B g s i n line col 3 vl l bad _ hs (by omega) hl hl0 hl1 hk0 hk1 (HA.out.of_grown (below_drewN w _))).mono ?_); rintro e w3 ⟨rfl, hA3, hB3⟩))
          all_goals first
            | (go_ret
               exact num_bad HA.out _ (num_none Hk.out (by simp only [numStop, Bool.or_eq_true, Bool.or_eq_false_iff, Bool.and_eq_true, Bool.and_eq_false_iff, beq_iff_eq, beq_eq_false_iff_ne, decide_eq_true_eq, decide_eq_false_iff_not] at *; first | omega | (simp_all; done) | (simp_all; omega))))
            | (go_ret
               exact num_good (num_some Hk.out (by simp only [numStop, Bool.or_eq_true, Bool.or_eq_false_iff, Bool.and_eq_true, Bool.and_eq_false_iff, beq_iff_eq, beq_eq_false_iff_ne, decide_eq_true_eq, decide_eq_false_iff_not] at *; first | omega | (simp_all; done) | (simp_all; omega))) (by omega) hA3 ((below_drewN' w _ B).trans hB3))
        · clear hgo
          go_wp2_with (first | (go_at_call 65; (refine (now_any g s i n line col v bad _ hs (by omega) (by omega) (by exact HS.out)).mono ?_); rintro e w' ⟨rfl, m1, rfl⟩) | (go_at_call 78; refine (hex_any _ _ (bt_range _ _).1 (bt_range _ _).2).mono ?_; rintro e w' ⟨rfl, rfl⟩) | (go_at_call 67; refine (letter_any _ _).mono ?_; rintro e w' ⟨rfl, rfl⟩) | (go_at_call 69; refine (digit_any _ _).mono ?_; rintro e w' ⟨rfl, rfl⟩) | (go_at_call 77; (refine (token_any B g s i n line col 3 vl l bad _ hs (by omega) hl hl0 hl1 hk0 hk1 (HA.out.of_grown (below_drewN w _))).mono ?_); rintro e w3 ⟨rfl, hA3, hB3⟩))
          all_goals first
            | (go_ret
               exact num_bad HA.out _ (num_none Hk.out (by simp only [numStop, Bool.or_eq_true, Bool.or_eq_false_iff, Bool.and_eq_true, Bool.and_eq_false_iff, beq_iff_eq, beq_eq_false_iff_ne, decide_eq_true_eq, decide_eq_false_iff_not] at *; first | omega | (simp_all; done) | (simp_all; omega))))
            | (go_ret
               exact num_good (num_some Hk.out (by simp only [numStop, Bool.or_eq_true, Bool.or_eq_false_iff, Bool.and_eq_true, Bool.and_eq_false_iff, beq_iff_eq, beq_eq_false_iff_ne, decide_eq_true_eq, decide_eq_false_iff_not] at *; first | omega | (simp_all; done) | (simp_all; omega))) (by omega) hA3 ((below_drewN' w _ B).trans hB3))
set_option maxRecDepth 100000 in
set_option maxHeartbeats 2000000 in
theorem number_dec2 (B g : Nat) (s : ByteArray) (i : Nat) (line col : Int) (l : List Tk) (bad : Bool) (w : World) (hs : s.size ≤ 140737488351232) (hi : i < s.size) (hx : isHex s i = false) (h48 : ¬ bt s i = 48) (hl : l.length ≤ 1048576)
    (hl0 : 0 ≤ line) (hl1 : line ≤ 140737488351233) (hk0 : 0 ≤ col) (hk1 : col ≤ 140737488351233) (h : LexAt B w g s i line col l bad) :
    Calls Tryd.prog 70 #[.pointer (some ⟨g, 0, none⟩)] w (NumPost B g s i line col l bad w) := by
  have HA := Hd.mk h
  obtain ⟨hBg, v, hS, hown, hne⟩ := h
  have HS := Hd.mk hS
  clear hS hown
  have hsc : numScan s i = nscan s 10 (s.size + 3) (i + 0) 0 0 := by simp [numScan, hx]
  have HSC := Hd.mk hsc
  clear hsc
  have h48' : (bt s i == 48) = false := by simpa using h48
  clear hx h48
  all_goals
    go_enter Tryd.func70, Tryd.ntmps70
    go_wp2_with (first | (go_at_call 65; (refine (now_int g s i _ line col v bad _ hs (by omega) (by omega) (by omega) (by omega) (by exact HS.out)).mono ?_); rintro e w' ⟨rfl, m1, rfl⟩) | (go_at_call 78; refine (hex_any _ _ (bt_range _ _).1 (bt_range _ _).2).mono ?_; rintro e w' ⟨rfl, rfl⟩) | (go_at_call 67; refine (letter_any _ _).mono ?_; rintro e w' ⟨rfl, rfl⟩) | (go_at_call 69; refine (digit_any _ _).mono ?_; rintro e w' ⟨rfl, rfl⟩))
    go_loopw [3, 5, 6] (fun t d x wr => ∃ (n m f : Nat) (dg vl : Int), 0 ≤ n ∧ i + n ≤ s.size + 0 ∧ t = .int .i64 n ∧ d = .int .i64 dg ∧ x = .int .u64 vl ∧ wr = w.drewN m ∧ 0 ≤ dg ∧ dg ≤ n ∧ (dg = 0 ∨ i + n ≤ s.size) ∧ 0 ≤ vl ∧ vl ≤ 4294967296 ∧ f + n = s.size + 3 + 0 ∧ Hd (nscan s 10 f (i + n) dg vl = numScan s i)) (fun t _ _ _ => s.size + 3 - (intOf t).toNat)
    case atStart => exact ⟨0, _, s.size + 3, 0, 0, by omega, by omega, rfl, rfl, rfl, rfl, by omega, by omega, .inl rfl, by omega, by omega, by omega, ⟨by rw [HSC.out]⟩⟩
    case round =>
      obtain ⟨n, m, f, dg, vl, hn0, hn1, rfl, rfl, rfl, rfl, hd0, hd1, hd2, hv0, hv1, hf, hsc⟩ := hrel
      have hr := hexV_range (bt s (i + n))
      have hc5 := HS.out.c5
      have hf5 := HS.out.fr 5
      obtain ⟨f, rfl⟩ : ∃ f', f = f' + 1 := ⟨f - 1, by omega⟩
      by_cases hgo : hexOk (bt s (i + n)) = true ∧ hexV (bt s (i + n)) < 10
      · have hlt' := hexOk_lt s (i + n) hgo.1
        have Hn : Hd (nscan s 10 f (i + (n + 1)) (dg + 1) (min (vl * 10 + hexV (bt s (i + n))) 4294967296) = numScan s i) := ⟨by rw [← hsc.out]; simp [nscan, hgo, Nat.add_assoc]⟩
        obtain ⟨hg1, hg2⟩ := hgo
        clear hsc
        go_wp2_with (first | (go_at_call 65; (refine (now_any g s i n line col v bad _ hs (by omega) (by omega) (by exact HS.out)).mono ?_); rintro e w' ⟨rfl, m1, rfl⟩) | (go_at_call 78; refine (hex_any _ _ (bt_range _ _).1 (bt_range _ _).2).mono ?_; rintro e w' ⟨rfl, rfl⟩) | (go_at_call 67; refine (letter_any _ _).mono ?_; rintro e w' ⟨rfl, rfl⟩) | (go_at_call 69; refine (digit_any _ _).mono ?_; rintro e w' ⟨rfl, rfl⟩))
        refine ⟨⟨n + 1, _, f, dg + 1, _, by omega, by omega, by go_num, rfl, rfl, rfl, by omega, by omega, .inr (by omega), ?_, ?_, by omega, ⟨?_⟩⟩, by simp [intOf]; omega⟩
        · split <;> omega
        · split <;> omega
        · rw [show (if 4294967296 < vl * 10 + hexV (bt s (i + n)) then 4294967296 else vl * 10 + hexV (bt s (i + n))) = min (vl * 10 + hexV (bt s (i + n))) 4294967296 from by split <;> omega]
          exact Hn.out
      · have Hk : Hd (numScan s i = (i + n, dg, vl)) := ⟨by rw [← hsc.out]; simp only [nscan, if_neg hgo]⟩
        clear hsc
        cases hg1 : hexOk (bt s (i + n))
        rotate_left
        · have hg2 : 10 ≤ hexV (bt s (i + n)) := by
            rcases Int.lt_or_le (hexV (bt s (i + n))) 10 with h | h
            · exact absurd ⟨hg1, h⟩ hgo
            · exact h
          clear hgo
          go_wp2_with (first | (go_at_call 65; (refine (now_any g s i n line col v bad _ hs (by omega) (by omega) (by exact HS.out)).mono ?_); rintro e w' ⟨rfl, m1, rfl⟩) | (go_at_call 78; refine (hex_any _ _ (bt_range _ _).1 (bt_range _ _).2).mono ?_; rintro e w' ⟨rfl, rfl⟩) | (go_at_call 67; refine (letter_any _ _).mono ?_; rintro e w' ⟨rfl, rfl⟩) | (go_at_call 69; refine (digit_any _ _).mono ?_; rintro e w' ⟨rfl, rfl⟩) | (go_at_call 77; (refine (token_any B g s i n line col 3 vl l bad _ hs (by omega) hl hl0 hl1 hk0 hk1 (HA.out.of_grown (below_drewN w _))).mono ?_); rintro e w3 ⟨rfl, hA3, hB3⟩))
          all_goals first
            | (go_ret
               exact num_bad HA.out _ (num_none Hk.out (by simp only [numStop, Bool.or_eq_true, Bool.or_eq_false_iff, Bool.and_eq_true, Bool.and_eq_false_iff, beq_iff_eq, beq_eq_false_iff_ne, decide_eq_true_eq, decide_eq_false_iff_not] at *; first | omega | (simp_all; done) | (simp_all; omega))))
            | (go_ret
               exact num_good (num_some Hk.out (by simp only [numStop, Bool.or_eq_true, Bool.or_eq_false_iff, Bool.and_eq_true, Bool.and_eq_false_iff, beq_iff_eq, beq_eq_false_iff_ne, decide_eq_true_eq, decide_eq_false_iff_not] at *; first | omega | (simp_all; done) | (simp_all; omega))) (by omega) hA3 ((below_drewN' w _ B).trans hB3))
        · clear hgo
          go_wp2_with (first | (go_at_call 65; (refine (now_any g s i n line col v bad _ hs (by omega) (by omega) (by exact HS.out)).mono ?_); rintro e w' ⟨rfl, m1, rfl⟩) | (go_at_call 78; refine (hex_any _ _ (bt_range _ _).1 (bt_range _ _).2).mono ?_; rintro e w' ⟨rfl, rfl⟩) | (go_at_call 67; refine (letter_any _ _).mono ?_; rintro e w' ⟨rfl, rfl⟩) | (go_at_call 69; refine (digit_any _ _).mono ?_; rintro e w' ⟨rfl, rfl⟩) | (go_at_call 77; (refine (token_any B g s i n line col 3 vl l bad _ hs (by omega) hl hl0 hl1 hk0 hk1 (HA.out.of_grown (below_drewN w _))).mono ?_); rintro e w3 ⟨rfl, hA3, hB3⟩))
          all_goals first
            | (go_ret
               exact num_bad HA.out _ (num_none Hk.out (by simp only [numStop, Bool.or_eq_true, Bool.or_eq_false_iff, Bool.and_eq_true, Bool.and_eq_false_iff, beq_iff_eq, beq_eq_false_iff_ne, decide_eq_true_eq, decide_eq_false_iff_not] at *; first | omega | (simp_all; done) | (simp_all; omega))))
            | (go_ret
               exact num_good (num_some Hk.out (by simp only [numStop, Bool.or_eq_true, Bool.or_eq_false_iff, Bool.and_eq_true, Bool.and_eq_false_iff, beq_iff_eq, beq_eq_false_iff_ne, decide_eq_true_eq, decide_eq_false_iff_not] at *; first | omega | (simp_all; done) | (simp_all; omega))) (by omega) hA3 ((below_drewN' w _ B).trans hB3))
theorem number_any (B g : Nat) (s : ByteArray) (i : Nat) (line col : Int) (l : List Tk) (bad : Bool) (w : World) (hs : s.size ≤ 140737488351232) (hi : i < s.size) (hl : l.length ≤ 1048576)
    (hl0 : 0 ≤ line) (hl1 : line ≤ 140737488351233) (hk0 : 0 ≤ col) (hk1 : col ≤ 140737488351233) (h : LexAt B w g s i line col l bad) :
    Calls Tryd.prog 70 #[.pointer (some ⟨g, 0, none⟩)] w (NumPost B g s i line col l bad w) := by
  cases hx : isHex s i with
  | true => exact number_hex B g s i line col l bad w hs hi hx hl hl0 hl1 hk0 hk1 h
  | false =>
    by_cases h48 : bt s i = 48
    · exact number_dec1 B g s i line col l bad w hs hi hx h48 hl hl0 hl1 hk0 hk1 h
    · exact number_dec2 B g s i line col l bad w hs hi hx h48 hl hl0 hl1 hk0 hk1 h
end Go.Proofs.YtnjnadlgndjnbaaDoor.Lx
