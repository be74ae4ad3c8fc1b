/- The contracts of lex.sign and lex.between. -/
import Derived.Test.YtnjnadlgndjnbaaDoorYHe
import Derived.Test.YtnjnadlgndjnbaaDoorYShelf
set_option linter.unusedVariables false
set_option linter.unusedSimpArgs false
namespace Go.Proofs.YtnjnadlgndjnbaaDoor.Lx
open Go.RowKit Go.Proofs.YtnjnadlgndjnbaaDoorW.PrintLast
def twoBytes : List UInt8 := [60, 60, 32, 62, 62, 32, 61, 61, 32, 33, 61, 32, 60, 61, 32, 62, 61]
def oneBytes : List UInt8 := [60, 62, 61, 43, 45, 42, 47, 37, 38, 124, 94, 126, 33, 40, 41, 123, 125, 91, 93, 44, 59]
def twoC (x : ByteArray) : Bool := Lib.contains twoBytes x.data.toList
def oneC (c : Int) : Int := Lib.indexByte oneBytes c.toNat.toUInt8
theorem contains_two (x : ByteArray) (w : World) (hm : ∃ mx : Int, w.cell? ⟨4, 0, none⟩ = some (.int .i64 mx)) :
    Calls Tryd.prog 79 #[.string ⟨#[60, 60, 32, 62, 62, 32, 61, 61, 32, 33, 61, 32, 60, 61, 32, 62, 61]⟩, .string x] w fun e w' => e = .returned (.bool (twoC x)) ∧ w' = w := by
  obtain ⟨mx, hm⟩ := hm
  exact Tryd.strings_Contains _ _ mx _ (by decide) hm
theorem index_one (c : Int) (w : World) :
    Calls Tryd.prog 66 #[.string ⟨#[60, 62, 61, 43, 45, 42, 47, 37, 38, 124, 94, 126, 33, 40, 41, 123, 125, 91, 93, 44, 59]⟩, .int .u8 c] w fun e w' => e = .returned (.int .i64 (oneC c)) ∧ w' = w :=
  Tryd.strings_IndexByte _ _ _
def two (s : ByteArray) (i : Nat) : Bool := decide (i + 2 ≤ s.size) && bt s i != 32 && bt s (i + 1) != 32 && twoC (s.extract i (i + 2))
def one (c : Int) : Bool := decide (0 ≤ oneC c) && c != 0
def signLen (s : ByteArray) (i : Nat) : Nat := if two s i then 2 else if one (bt s i) then 1 else 0
def SignPost (B g : Nat) (s : ByteArray) (i : Nat) (line col : Int) (l : List Tk) (bad : Bool) (w : World) (e : Ending) (w' : World) : Prop :=
  Below B w w' ∧ if signLen s i = 0 then e = .returned .nilFunc ∧ LexAt B w' g s i line col l true
    else e = .returned (.func (.func 53) #[] #[]) ∧ i + signLen s i ≤ s.size ∧ LexAt B w' g s ((i : Int) + (signLen s i : Nat)) (adv s i (line, col) (signLen s i)).1 (adv s i (line, col) (signLen s i)).2 (l ++ [⟨4, s.extract i (i + signLen s i), line, col, 0⟩]) bad
theorem sign_bad {B g : Nat} {s : ByteArray} {i : Nat} {line col : Int} {l : List Tk} {bad : Bool} {w : World} (hA : LexAt B w g s i line col l bad) (k : Nat) (hn : signLen s i = 0) : SignPost B g s i line col l bad w (.returned .nilFunc) ((w.setCell ⟨g, 5, none⟩ (.bool true)).drewN k) := by
  refine ⟨((Below.refl B w).setCell (p := ⟨g, 5, none⟩) hA.hB _).trans (below_drewN' _ _ _), ?_⟩
  rw [if_pos hn]
  exact ⟨rfl, hA.setBad.of_grown (below_drewN _ _)⟩
theorem sign_good {B g : Nat} {s : ByteArray} {i n : Nat} {line col : Int} {l : List Tk} {bad : Bool} {w W : World} (hn : signLen s i = n) (h0 : 0 < n) (hin : i + n ≤ s.size)
    (hA : LexAt B W g s ((i : Int) + n) (adv s i (line, col) n).1 (adv s i (line, col) n).2 (l ++ [⟨4, s.extract i (i + n), line, col, 0⟩]) bad) (hb : Below B w W) : SignPost B g s i line col l bad w (.returned (.func (.func 53) #[] #[])) W := by
  subst hn
  refine ⟨hb, ?_⟩
  rw [if_neg (by omega)]
  exact ⟨rfl, hin, hA⟩
theorem token_int (B g : Nat) (s : ByteArray) (i : Nat) (n : Int) (line col kind num : Int) (l : List Tk) (bad : Bool) (w : World) (hs : s.size ≤ 140737488351232) (hn : 0 ≤ n) (hin : i + n ≤ s.size) (hl : l.length ≤ 1048576)
    (hl0 : 0 ≤ line) (hl1 : line ≤ 140737488351233) (hk0 : 0 ≤ col) (hk1 : col ≤ 140737488351233) (h : LexAt B w g s i line col l bad) :
    Calls Tryd.prog 77 #[.pointer (some ⟨g, 0, none⟩), .int .i64 kind, .int .i64 n, .int .u32 num] w fun e w' => e = .returned (.tuple #[]) ∧
      LexAt B w' g s ((i : Int) + n) (adv s i (line, col) n.toNat).1 (adv s i (line, col) n.toNat).2 (l ++ [⟨kind, s.extract i (i + n.toNat), line, col, num⟩]) bad ∧ Below B w w' := by
  obtain ⟨n, rfl⟩ := Int.eq_ofNat_of_zero_le hn
  exact token_any B g s i n line col kind num l bad w hs (by omega) hl hl0 hl1 hk0 hk1 h
set_option maxRecDepth 100000 in
set_option maxHeartbeats 2000000 in
theorem sign_any (B g : Nat) (s : ByteArray) (i : Nat) (line col : Int) (l : List Tk) (bad : Bool) (w : World) (hs : s.size ≤ 140737488351232) (hi : i < s.size) (hl : l.length ≤ 1048576) (hK : Keys w)
    (hl0 : 0 ≤ line) (hl1 : line ≤ 140737488351233) (hk0 : 0 ≤ col) (hk1 : col ≤ 140737488351233) (h : LexAt B w g s i line col l bad) :
    Calls Tryd.prog 71 #[.pointer (some ⟨g, 0, none⟩)] w (SignPost B g s i line col l bad w) := by
  have HA := Hd.mk h
  obtain ⟨hBg, v, hS, hown, hne⟩ := h
  have HS := Hd.mk hS
  clear hS hown
  have hc0 := HS.out.c0
  have hc1 := HS.out.c1
  have hc5 := HS.out.c5
  have hf5 := HS.out.fr 5
  have HM := Hd.mk hK.2
  clear hK
  have hj0 : (0 : Int) ≤ (i : Int) := by omega
  have hj1 : (i : Int) ≤ (i : Int) + 2 := by omega
  have e1 : IntKind.i64.wrap ((i : Int) + 2) = (i : Int) + 2 := IntWalk.i64_in _ (by omega)
  have hone : (one (bt s i) = true → 0 ≤ oneC (bt s i) ∧ (bt s i == 0) = false) ∧ (one (bt s i) = false → oneC (bt s i) < 0 ∨ (0 ≤ oneC (bt s i) ∧ (bt s i == 0) = true)) := by
    unfold one
    rcases Int.lt_or_le (oneC (bt s i)) 0 with h | h <;> cases hz : bt s i == 0 <;> simp_all <;> omega
  by_cases h2 : i + 2 ≤ s.size
  · have hj2 : (i : Int) + 2 ≤ (s.size : Int) := by omega
    have hr0 : ∀ h, (((s.extract i (i + 2))[0]'h).toNat : Int) = bt s i := fun h => by rw [bt_eq, bt_extract s i 2 0 h2 (by omega)]; rfl
    have hr1 : ∀ h, (((s.extract i (i + 2))[1]'h).toNat : Int) = bt s (i + 1) := fun h => by rw [bt_eq, bt_extract s i 2 1 h2 (by omega)]
    cases ht : two s i with
    | true =>
      have ht' := ht
      simp only [two, Bool.and_eq_true, bne_iff_ne, decide_eq_true_eq] at ht'
      obtain ⟨⟨⟨_, ha⟩, hb⟩, hc⟩ := ht'
      have ha' : (bt s i != 32) = true := by simpa using ha
      have hb' : (bt s (i + 1) != 32) = true := by simpa using hb
      have hln : Hd (signLen s i = 2) := ⟨by simp [signLen, ht]⟩
      clear ht hone ha hb
      go_enter Tryd.func71, Tryd.ntmps71
      go_wp2
      go_quiet (fail)
      go_wp2
      go_quiet (fail)
      go_wp2_with (first | (go_at_call 65; (refine (now_int g s i _ line col v bad _ hs (by omega) (by omega) (by omega) (by omega) (by exact HS.out)).mono ?_); rintro e w' ⟨rfl, m1, rfl⟩) | (go_at_call 66; (refine (index_one _ _).mono ?_); rintro e w' ⟨rfl, rfl⟩) | (go_at_call 79; (refine (contains_two _ _ (by exact HM.out)).mono ?_); rintro e w' ⟨rfl, rfl⟩) | (go_at_call 77; (refine (token_int B g s i _ line col 4 0 l bad _ hs (by omega) (by omega) hl hl0 hl1 hk0 hk1 (HA.out.of_grown (below_drewN w _))).mono ?_); rintro e w3 ⟨rfl, hA3, hB3⟩))
      go_ret
      exact sign_good (n := 2) hln.out (by omega) (by omega) hA3 ((below_drewN' w _ B).trans hB3)
    | false =>
      have hsl : signLen s i = if one (bt s i) then 1 else 0 := by simp [signLen, ht]
      have hcs : (bt s i != 32) = false ∨ ((bt s i != 32) = true ∧ (bt s (i + 1) != 32) = false) ∨ ((bt s i != 32) = true ∧ (bt s (i + 1) != 32) = true ∧ twoC (s.extract i (i + 2)) = false) := by
        unfold two at ht
        cases ha : bt s i != 32 <;> cases hb : bt s (i + 1) != 32 <;> simp_all
      clear ht
      cases ho : one (bt s i) with
      | true =>
        obtain ⟨ho1, ho2⟩ := hone.1 ho
        have hln : Hd (signLen s i = 1) := ⟨by simp [hsl, ho]⟩
        clear hone ho hsl
        rcases hcs with ha | ⟨ha, hb⟩ | ⟨ha, hb, hc⟩
        all_goals
          go_enter Tryd.func71, Tryd.ntmps71
          go_wp2
          go_quiet (fail)
          go_wp2
          go_quiet (fail)
          go_wp2_with (first | (go_at_call 65; (refine (now_int g s i _ line col v bad _ hs (by omega) (by omega) (by omega) (by omega) (by exact HS.out)).mono ?_); rintro e w' ⟨rfl, m1, rfl⟩) | (go_at_call 66; (refine (index_one _ _).mono ?_); rintro e w' ⟨rfl, rfl⟩) | (go_at_call 79; (refine (contains_two _ _ (by exact HM.out)).mono ?_); rintro e w' ⟨rfl, rfl⟩) | (go_at_call 77; (refine (token_int B g s i _ line col 4 0 l bad _ hs (by omega) (by omega) hl hl0 hl1 hk0 hk1 (HA.out.of_grown (below_drewN w _))).mono ?_); rintro e w3 ⟨rfl, hA3, hB3⟩))
          go_ret
          exact sign_good (n := 1) hln.out (by omega) (by omega) hA3 ((below_drewN' w _ B).trans hB3)
      | false =>
        have hln : Hd (signLen s i = 0) := ⟨by simp [hsl, ho]⟩
        have ho' := hone.2 ho
        clear hone ho hsl
        rcases ho' with ho1 | ⟨ho1, ho2⟩ <;> rcases hcs with ha | ⟨ha, hb⟩ | ⟨ha, hb, hc⟩
        all_goals
          go_enter Tryd.func71, Tryd.ntmps71
          go_wp2
          go_quiet (fail)
          go_wp2
          go_quiet (fail)
          go_wp2_with (first | (go_at_call 65; (refine (now_int g s i _ line col v bad _ hs (by omega) (by omega) (by omega) (by omega) (by exact HS.out)).mono ?_); rintro e w' ⟨rfl, m1, rfl⟩) | (go_at_call 66; (refine (index_one _ _).mono ?_); rintro e w' ⟨rfl, rfl⟩) | (go_at_call 79; (refine (contains_two _ _ (by exact HM.out)).mono ?_); rintro e w' ⟨rfl, rfl⟩) | (go_at_call 77; (refine (token_int B g s i _ line col 4 0 l bad _ hs (by omega) (by omega) hl hl0 hl1 hk0 hk1 (HA.out.of_grown (below_drewN w _))).mono ?_); rintro e w3 ⟨rfl, hA3, hB3⟩))
          go_ret
          exact sign_bad HA.out _ hln.out
  · have hj3 : ¬ ((i : Int) + 2 ≤ (s.size : Int)) := by omega
    have hsl : signLen s i = if one (bt s i) then 1 else 0 := by simp [signLen, two, h2]
    cases ho : one (bt s i) with
    | true =>
      obtain ⟨ho1, ho2⟩ := hone.1 ho
      have hln : Hd (signLen s i = 1) := ⟨by simp [hsl, ho]⟩
      clear hone ho hsl
      go_enter Tryd.func71, Tryd.ntmps71
      go_wp2
      go_quiet (fail)
      go_wp2_with (first | (go_at_call 65; (refine (now_int g s i _ line col v bad _ hs (by omega) (by omega) (by omega) (by omega) (by exact HS.out)).mono ?_); rintro e w' ⟨rfl, m1, rfl⟩) | (go_at_call 66; (refine (index_one _ _).mono ?_); rintro e w' ⟨rfl, rfl⟩) | (go_at_call 79; (refine (contains_two _ _ (by exact HM.out)).mono ?_); rintro e w' ⟨rfl, rfl⟩) | (go_at_call 77; (refine (token_int B g s i _ line col 4 0 l bad _ hs (by omega) (by omega) hl hl0 hl1 hk0 hk1 (HA.out.of_grown (below_drewN w _))).mono ?_); rintro e w3 ⟨rfl, hA3, hB3⟩))
      go_ret
      exact sign_good (n := 1) hln.out (by omega) (by omega) hA3 ((below_drewN' w _ B).trans hB3)
    | false =>
      have hln : Hd (signLen s i = 0) := ⟨by simp [hsl, ho]⟩
      have ho' := hone.2 ho
      clear hone ho hsl
      rcases ho' with ho1 | ⟨ho1, ho2⟩
      all_goals
        go_enter Tryd.func71, Tryd.ntmps71
        go_wp2
        go_quiet (fail)
        go_wp2_with (first | (go_at_call 65; (refine (now_int g s i _ line col v bad _ hs (by omega) (by omega) (by omega) (by omega) (by exact HS.out)).mono ?_); rintro e w' ⟨rfl, m1, rfl⟩) | (go_at_call 66; (refine (index_one _ _).mono ?_); rintro e w' ⟨rfl, rfl⟩) | (go_at_call 79; (refine (contains_two _ _ (by exact HM.out)).mono ?_); rintro e w' ⟨rfl, rfl⟩) | (go_at_call 77; (refine (token_int B g s i _ line col 4 0 l bad _ hs (by omega) (by omega) hl hl0 hl1 hk0 hk1 (HA.out.of_grown (below_drewN w _))).mono ?_); rintro e w3 ⟨rfl, hA3, hB3⟩))
        go_ret
        exact sign_bad HA.out _ hln.out
end Go.Proofs.YtnjnadlgndjnbaaDoor.Lx
