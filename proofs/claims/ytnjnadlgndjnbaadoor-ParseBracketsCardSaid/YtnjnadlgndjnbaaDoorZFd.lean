/- Parse: brackets around an expression; what an index, a call, a cast and ! are of it. -/
import Derived.Test.YtnjnadlgndjnbaaDoorZFb
set_option linter.unusedVariables false
set_option linter.unusedSimpArgs false
namespace Go.Proofs.YtnjnadlgndjnbaaDoor.Fp
open Go.Proofs.YtnjnadlgndjnbaaDoor.A (sizeE sizeEs)
def fuelOf (l : List Key) : Nat := 24 * l.length + 25
def parseK (l : List Key) : Option (Res SE) := expr (fuelOf l) 1 l
theorem parseK_some (l : List Key) : parseK l ≠ none := (enough _).1 1 l (by unfold fuelOf; omega)
theorem more_end (k lv : Nat) (e : SE) : more (k + 1) lv e [] = some (.ok e []) := by
  rw [more, show (levelOps lv).find? (fun o => isT o.1 []) = none from List.find?_eq_none.2 (fun o _ => by simp [isT])]
theorem up_levels {k : Nat} (hk : 1 ≤ k) {l : List Key} {e : SE} (h : unary k l = some (.ok e [])) : ∀ d : Nat, d ≤ 8 → expr (k + 1 + d) (9 - d) l = some (.ok e [])
  | 0, _ => by rw [Nat.add_zero, expr, if_pos (by omega)]; exact h
  | d + 1, hd => by
    have ih := up_levels hk h d (by omega)
    rw [← Nat.add_assoc, expr, if_neg (by omega), show 9 - (d + 1) + 1 = 9 - d by omega, ih]
    show more (k + 1 + d) (9 - (d + 1)) e [] = _
    rw [show k + 1 + d = (k + d) + 1 by omega, more_end]
theorem expr_of_unary {k : Nat} (hk : 1 ≤ k) {l : List Key} {e : SE} (h : unary k l = some (.ok e [])) : expr (k + 9) 1 l = some (.ok e []) := up_levels hk h 8 (by omega)
theorem isT_cons (s : List UInt8) (a : Key) (l : List Key) : isT s (a :: l) = ((a.1 == 2 || a.1 == 4) && a.2.1 == s) := rfl
theorem not_close : ∀ k : Nat, (∀ lv l e r, expr k lv l = some (.ok e r) → isT [41] l = false) ∧ (∀ l e r, unary k l = some (.ok e r) → isT [41] l = false) ∧ (∀ l e r, primary k l = some (.ok e r) → isT [41] l = false)
  | 0 => ⟨fun _ _ _ _ h => (by rw [expr] at h; cases h), fun _ _ _ h => (by rw [unary] at h; cases h), fun _ _ _ h => (by rw [primary] at h; cases h)⟩
  | k + 1 => by
    obtain ⟨h1, h2, h3⟩ := not_close k
    refine ⟨fun lv l e r h => ?_, fun l e r h => ?_, fun l e r h => ?_⟩
    · rw [expr] at h
      split at h
      · exact h2 _ _ _ h
      · obtain ⟨a, m, q, _⟩ := andThen_ok h
        exact h1 _ _ _ _ q
    · rw [unary] at h
      cases hc : isT [41] l with
      | false => rfl
      | true =>
        have hu : unOp l = 0 := by
          cases l with
          | nil => rfl
          | cons a l =>
            simp only [isT, Bool.and_eq_true, beq_iff_eq] at hc
            unfold unOp
            rw [isT_cons, isT_cons, isT_cons, hc.2]
            simp
        rw [if_pos hu] at h
        rw [h3 _ _ _ h] at hc
        cases hc
    · cases hc : isT [41] l with
      | false => rfl
      | true =>
        cases l with
        | nil => cases hc
        | cons a l =>
          have hc' := hc
          simp only [isT, Bool.and_eq_true, Bool.or_eq_true, beq_iff_eq] at hc'
          obtain ⟨hk, ht⟩ := hc'
          have e1 : typeAt (a :: l) = 0 := by show (if a.1 == 2 then typeOf a.2.1 else 0) = 0; rw [ht]; split <;> rfl
          have e2 : kindAt (a :: l) ≠ 3 ∧ kindAt (a :: l) ≠ 1 := by show a.1 ≠ 3 ∧ a.1 ≠ 1; omega
          have e3 : isT [40] (a :: l) = false := by rw [isT_cons, ht]; simp
          rw [primary, if_neg (by rw [e1]; simp), if_neg e2.1, if_neg e2.2] at h
          obtain ⟨q, _⟩ := must_ok h
          rw [e3] at q
          cases q
def kL : Key := (4, [40], 0)
def kR : Key := (4, [41], 0)
def kQ : Key := (4, [93], 0)
theorem kR_ends : Ends kR := ⟨rfl, .inl rfl⟩
theorem kQ_ends : Ends kQ := ⟨rfl, .inr rfl⟩
theorem must_R {α : Type} (t : List Key) (f : List Key → Option (Res α)) : must [41] (kR :: t) f = f t := rfl
theorem must_L {α : Type} (t : List Key) (f : List Key → Option (Res α)) : must [40] (kL :: t) f = f t := rfl
theorem primary_par {l : List Key} {e : SE} {k : Nat} (h : expr k 1 l = some (.ok e [])) : primary (k + 1) (kL :: (l ++ [kR])) = some (.ok e []) := by
  rw [primary, if_neg (by simp [typeAt, kL]), if_neg (by simp [kindAt, kL]), if_neg (by simp [kindAt, kL]), must_L, (stops kR_ends [] k).1 _ _ _ _ h]
  rfl
theorem unary_par {l : List Key} {e : SE} {k : Nat} (h : expr k 1 l = some (.ok e [])) : unary (k + 2) (kL :: (l ++ [kR])) = some (.ok e []) := by
  rw [unary, if_pos (by simp [unOp, isT, kL]), primary_par h]
theorem fuel_app (a l b : List Key) : fuelOf (a ++ l ++ b) = fuelOf l + 24 * a.length + 24 * b.length := by unfold fuelOf; simp only [List.length_append]; omega
theorem par_same {l : List Key} {e : SE} (h : parseK l = some (.ok e [])) : parseK ([kL] ++ l ++ [kR]) = some (.ok e []) := by
  have h1 := expr_of_unary (by omega) (unary_par h)
  exact expr_up (by rw [fuel_app]; simp only [List.length_cons, List.length_nil]; omega) h1
theorem par_twice {l : List Key} {e : SE} (h : parseK l = some (.ok e [])) : parseK ([kL, kL] ++ l ++ [kR, kR]) = some (.ok e []) := by
  have := par_same (par_same h)
  simpa using this
theorem unary_of_primary {k : Nat} {l : List Key} {e : SE} (hu : unOp l = 0) (h : primary k l = some (.ok e [])) : unary (k + 1) l = some (.ok e []) := by rw [unary, if_pos hu, h]
theorem up_all {a l b : List Key} {e' : SE} (ha : 1 ≤ a.length) (hb : 1 ≤ b.length) (hu : unOp (a ++ l ++ b) = 0) {k : Nat} (hk : k ≤ fuelOf l + 3) (hk1 : 1 ≤ k) (h : primary k (a ++ l ++ b) = some (.ok e' [])) : parseK (a ++ l ++ b) = some (.ok e' []) := by
  have h1 := expr_of_unary (by omega) (unary_of_primary hu h)
  exact expr_up (by rw [fuel_app]; omega) h1
theorem index_of {l : List Key} {e : SE} (h : parseK l = some (.ok e [])) : parseK ([(1, [113], 0), (4, [91], 0)] ++ l ++ [kQ]) = some (.ok (eIndex [113] e) []) := by
  refine up_all (k := fuelOf l + 1) (by simp) (by simp) (by simp [unOp, isT]) (by omega) (by omega) ?_
  rw [primary, if_neg (by simp [typeAt]), if_neg (by simp [kindAt]), if_pos (by simp [kindAt]), if_pos (by simp [isT])]
  show andThen (expr (fuelOf l) 1 (l ++ kQ :: [])) _ = _
  rw [(stops kQ_ends [] _).1 _ _ _ _ h]
  rfl
theorem call_of {l : List Key} {e : SE} (h : parseK l = some (.ok e [])) : parseK ([(1, [113], 0), (4, [40], 0)] ++ l ++ [kR]) = some (.ok (eCall [113] [e]) []) := by
  refine up_all (k := fuelOf l + 3) (by simp) (by simp) (by simp [unOp, isT]) (by omega) (by omega) ?_
  have hl : l ≠ [] := (some_left _).1 _ _ _ _ h
  have hc := (not_close _).1 _ _ _ _ h
  rw [primary, if_neg (by simp [typeAt]), if_neg (by simp [kindAt]), if_pos (by simp [kindAt]), if_neg (by simp [isT]), if_pos (by simp [isT])]
  show andThen (args (fuelOf l + 2) (l ++ kR :: [])) _ = _
  rw [args, isT_l _ hl, hc, if_neg (by simp), expr_up (Nat.le_succ _) ((stops kR_ends [] _).1 _ _ _ _ h)]
  show andThen (argsMore (fuelOf l + 1) [e] [kR]) _ = _
  rw [argsMore, if_neg (by simp [isT, kR]), must_R]
  rfl
theorem cast_of {l : List Key} {e : SE} (h : parseK l = some (.ok e [])) : parseK ([(2, [117, 49, 54], 0), (4, [40], 0)] ++ l ++ [kR]) = some (.ok (eCast 2 e) []) := by
  refine up_all (k := fuelOf l + 1) (by simp) (by simp) (by simp [unOp, isT]) (by omega) (by omega) ?_
  rw [primary, if_pos (by simp [typeAt, typeOf])]
  show must [40] (kL :: (l ++ kR :: [])) _ = _
  rw [must_L, (stops kR_ends [] _).1 _ _ _ _ h]
  rfl
theorem not_of {l : List Key} {e : SE} (h : parseK l = some (.ok e [])) : parseK ([(4, [33], 0), (4, [40], 0)] ++ l ++ [kR]) = some (.ok (eUn 3 e) []) := by
  have h1 : unary (fuelOf l + 3) ([(4, [33], 0), (4, [40], 0)] ++ l ++ [kR]) = some (.ok (eUn 3 e) []) := by
    rw [unary, if_neg (by simp [unOp, isT])]
    show andThen (unary (fuelOf l + 2) (kL :: (l ++ [kR]))) _ = _
    rw [unary_par h]
    rfl
  have h2 := expr_of_unary (by omega) h1
  exact expr_up (by rw [fuel_app]; simp only [List.length_cons, List.length_nil]; omega) h2
end Go.Proofs.YtnjnadlgndjnbaaDoor.Fp
