/- Parse: more fuel answers the same; how much is read; enough fuel answers. -/
import Derived.Test.YtnjnadlgndjnbaaDoorYFa
import Derived.Test.YtnjnadlgndjnbaaDoorYAc
set_option linter.unusedVariables false
set_option linter.unusedSimpArgs false
namespace Go.Proofs.YtnjnadlgndjnbaaDoor.Fp
theorem tail_len {l : List Key} (h : l ≠ []) : l.tail.length + 1 = l.length := by
  cases l with
  | nil => exact absurd rfl h
  | cons a l => rfl
open Go.Proofs.YtnjnadlgndjnbaaDoor.A (sizeE sizeEs)
theorem szEs_snoc (a : List SE) (e : SE) : sizeEs (a ++ [e]) = sizeEs a + sizeE e := by
  induction a with
  | nil => show sizeEs [e] = sizeEs [] + _; simp only [sizeEs]; omega
  | cons x a ih => show sizeEs (x :: (a ++ [e])) = sizeEs (x :: a) + _; rw [sizeEs, sizeEs]; have : sizeEs (a ++ [e]) = sizeEs a + sizeE e := ih; omega
theorem lens : ∀ k : Nat,
    (∀ lv l e r, expr k lv l = some (.ok e r) → sizeE e + r.length ≤ l.length) ∧ (∀ lv e0 l e r, more k lv e0 l = some (.ok e r) → sizeE e + r.length ≤ sizeE e0 + l.length) ∧ (∀ l e r, unary k l = some (.ok e r) → sizeE e + r.length ≤ l.length) ∧
    (∀ l e r, primary k l = some (.ok e r) → sizeE e + r.length ≤ l.length) ∧ (∀ l a r, args k l = some (.ok a r) → sizeEs a + r.length + 1 ≤ l.length) ∧ (∀ a0 l a r, argsMore k a0 l = some (.ok a r) → sizeEs a + r.length + 1 ≤ sizeEs a0 + l.length)
  | 0 => ⟨fun _ _ _ _ h => (by rw [expr] at h; cases h), fun _ _ _ _ _ h => (by rw [more] at h; cases h), fun _ _ _ h => (by rw [unary] at h; cases h), fun _ _ _ h => (by rw [primary] at h; cases h), fun _ _ _ h => (by rw [args] at h; cases h), fun _ _ _ _ h => (by rw [argsMore] at h; cases h)⟩
  | k + 1 => by
    obtain ⟨hE, hM, hU, hP, hA, hN⟩ := lens k
    have s1 : ∀ op a b, sizeE (eBin op a b) = 1 + sizeE a + sizeE b := fun op a b => by show sizeE ⟨6, op, 0, 0, ⟨#[]⟩, [a, b]⟩ = _; rw [sizeE, sizeEs, sizeEs, sizeEs]; omega
    have s2 : ∀ op a, sizeE (eUn op a) = 1 + sizeE a := fun op a => by show sizeE ⟨5, op, 0, 0, ⟨#[]⟩, [a]⟩ = _; rw [sizeE, sizeEs, sizeEs]; omega
    have s3 : ∀ ty a, sizeE (eCast ty a) = 1 + sizeE a := fun op a => by show sizeE ⟨7, 0, op, 0, ⟨#[]⟩, [a]⟩ = _; rw [sizeE, sizeEs, sizeEs]; omega
    have s4 : ∀ n, sizeE (eNum n) = 1 := fun n => by show sizeE ⟨1, 0, 0, n, ⟨#[]⟩, []⟩ = _; rw [sizeE, sizeEs]
    have s5 : ∀ s, sizeE (eVar s) = 1 := fun s => by show sizeE ⟨2, 0, 0, 0, ⟨s.toArray⟩, []⟩ = _; rw [sizeE, sizeEs]
    have s6 : ∀ s a, sizeE (eIndex s a) = 1 + sizeE a := fun s a => by show sizeE ⟨3, 0, 0, 0, ⟨s.toArray⟩, [a]⟩ = _; rw [sizeE, sizeEs, sizeEs]; omega
    have s7 : ∀ s a, sizeE (eCall s a) = 1 + sizeEs a := fun s a => by show sizeE ⟨4, 0, 0, 0, ⟨s.toArray⟩, a⟩ = _; rw [sizeE]
    refine ⟨fun lv l e r h => ?_, fun lv e0 l e r h => ?_, fun l e r h => ?_, fun l e r h => ?_, fun l a r h => ?_, fun a0 l a r h => ?_⟩
    · rw [expr] at h
      split at h
      · exact hU _ _ _ h
      · obtain ⟨a, m, q1, q2⟩ := andThen_ok h
        have := hE _ _ _ _ q1
        have := hM _ _ _ _ _ q2
        omega
    · rw [more] at h
      cases ho : (levelOps lv).find? (fun o => isT o.1 l) with
      | none => rw [ho] at h; simp only [Option.some.injEq, Res.ok.injEq] at h; obtain ⟨rfl, rfl⟩ := h; exact Nat.le_refl _
      | some o =>
        rw [ho] at h
        obtain ⟨a, m, q1, q2⟩ := andThen_ok h
        have := tail_len (isT_ne (show isT o.1 l = true from by simpa using List.find?_some ho))
        have := hE _ _ _ _ q1
        have := hM _ _ _ _ _ q2
        rw [s1] at this
        omega
    · rw [unary] at h
      split at h
      · exact hP _ _ _ h
      · next h0 =>
        obtain ⟨a, m, q1, q2⟩ := andThen_ok h
        simp only [Option.some.injEq, Res.ok.injEq] at q2
        obtain ⟨rfl, rfl⟩ := q2
        have hl : l ≠ [] := by rintro rfl; exact h0 rfl
        have := tail_len hl
        have := hU _ _ _ q1
        rw [s2]
        omega
    · rw [primary] at h
      split at h
      · next h0 =>
        obtain ⟨t1, h⟩ := must_ok h
        obtain ⟨a, m, q1, h⟩ := andThen_ok h
        obtain ⟨t2, h⟩ := must_ok h
        simp only [Option.some.injEq, Res.ok.injEq] at h
        obtain ⟨rfl, rfl⟩ := h
        have hl : l ≠ [] := by rintro rfl; exact h0 rfl
        have := tail_len hl
        have := tail_len (isT_ne t1)
        have := tail_len (isT_ne t2)
        have := hE _ _ _ _ q1
        rw [s3]
        omega
      · split at h
        · next h3 =>
          simp only [Option.some.injEq, Res.ok.injEq] at h
          obtain ⟨rfl, rfl⟩ := h
          have hl : l ≠ [] := by rintro rfl; cases h3
          have := tail_len hl
          rw [s4]
          omega
        · split at h
          · next h1 =>
            have hl : l ≠ [] := by rintro rfl; cases h1
            have := tail_len hl
            split at h
            · next t1 =>
              obtain ⟨a, m, q1, h⟩ := andThen_ok h
              obtain ⟨t2, h⟩ := must_ok h
              simp only [Option.some.injEq, Res.ok.injEq] at h
              obtain ⟨rfl, rfl⟩ := h
              have := tail_len (isT_ne t1)
              have := tail_len (isT_ne t2)
              have := hE _ _ _ _ q1
              rw [s6]
              omega
            · split at h
              · next t1 =>
                obtain ⟨a, m, q1, h⟩ := andThen_ok h
                simp only [Option.some.injEq, Res.ok.injEq] at h
                obtain ⟨rfl, rfl⟩ := h
                have := tail_len (isT_ne t1)
                have := hA _ _ _ q1
                rw [s7]
                omega
              · simp only [Option.some.injEq, Res.ok.injEq] at h
                obtain ⟨rfl, rfl⟩ := h
                rw [s5]
                omega
          · obtain ⟨t1, h⟩ := must_ok h
            obtain ⟨a, m, q1, h⟩ := andThen_ok h
            obtain ⟨t2, h⟩ := must_ok h
            simp only [Option.some.injEq, Res.ok.injEq] at h
            obtain ⟨rfl, rfl⟩ := h
            have := tail_len (isT_ne t1)
            have := tail_len (isT_ne t2)
            have := hE _ _ _ _ q1
            omega
    · rw [args] at h
      split at h
      · next t1 =>
        simp only [Option.some.injEq, Res.ok.injEq] at h
        obtain ⟨rfl, rfl⟩ := h
        have := tail_len (isT_ne t1)
        show sizeEs [] + _ + 1 ≤ _
        rw [sizeEs]
        omega
      · obtain ⟨a, m, q1, q2⟩ := andThen_ok h
        have := hE _ _ _ _ q1
        have := hN _ _ _ _ q2
        have h1 : sizeEs [a] = sizeE a := by show sizeEs [a] = _; rw [sizeEs, sizeEs]; rfl
        rw [h1] at this
        omega
    · rw [argsMore] at h
      split at h
      · next t1 =>
        obtain ⟨b, m, q1, q2⟩ := andThen_ok h
        have := tail_len (isT_ne t1)
        have := hE _ _ _ _ q1
        have := hN _ _ _ _ q2
        rw [szEs_snoc] at this
        omega
      · obtain ⟨t1, h⟩ := must_ok h
        simp only [Option.some.injEq, Res.ok.injEq] at h
        obtain ⟨rfl, rfl⟩ := h
        have := tail_len (isT_ne t1)
        omega
theorem szE_pos (e : SE) : 1 ≤ sizeE e := by obtain ⟨_, _, _, _, _, l⟩ := e; show 1 ≤ sizeE _; rw [sizeE]; omega
theorem andThen_some {α β : Type} {r : Option (Res α)} {f : α → List Key → Option (Res β)} (h1 : r ≠ none) (h2 : ∀ a l, r = some (.ok a l) → f a l ≠ none) : andThen r f ≠ none := by
  cases hr : r with
  | none => exact absurd hr h1
  | some y => cases y with
    | bad l => intro h; cases h
    | ok a l => exact h2 a l hr
theorem must_some {α : Type} {s : List UInt8} {l : List Key} {f : List Key → Option (Res α)} (h : isT s l = true → f l.tail ≠ none) : must s l f ≠ none := by
  unfold must
  split
  · next s1 => exact h s1
  · intro h; cases h
theorem enough : ∀ k : Nat,
    (∀ lv l, 24 * l.length + 2 * (9 - lv) + 3 ≤ k → expr k lv l ≠ none) ∧ (∀ lv e l, 24 * l.length + 1 ≤ k → more k lv e l ≠ none) ∧ (∀ l, 24 * l.length + 2 ≤ k → unary k l ≠ none) ∧
    (∀ l, 24 * l.length + 1 ≤ k → primary k l ≠ none) ∧ (∀ l, 24 * l.length + 21 ≤ k → args k l ≠ none) ∧ (∀ a l, 24 * l.length + 1 ≤ k → argsMore k a l ≠ none)
  | 0 => ⟨fun _ _ h => by omega, fun _ _ _ h => by omega, fun _ h => by omega, fun _ h => by omega, fun _ h => by omega, fun _ _ h => by omega⟩
  | k + 1 => by
    obtain ⟨hE, hM, hU, hP, hA, hN⟩ := enough k
    obtain ⟨zE, zM, zU, zP, zA, zN⟩ := lens k
    refine ⟨fun lv l h => ?_, fun lv e l h => ?_, fun l h => ?_, fun l h => ?_, fun l h => ?_, fun a l h => ?_⟩
    · rw [expr]
      split
      · exact hU _ (by omega)
      · exact andThen_some (hE _ _ (by omega)) (fun a m q => hM _ _ _ (by have := zE _ _ _ _ q; omega))
    · rw [more]
      cases ho : (levelOps lv).find? (fun o => isT o.1 l) with
      | none => intro h; cases h
      | some o =>
        have hl := isT_ne (show isT o.1 l = true from by simpa using List.find?_some ho)
        have := tail_len hl
        exact andThen_some (hE _ _ (by omega)) (fun a m q => hM _ _ _ (by have := zE _ _ _ _ q; omega))
    · rw [unary]
      split
      · exact hP _ (by omega)
      · next h0 =>
        have hl : l ≠ [] := by rintro rfl; exact h0 rfl
        have := tail_len hl
        exact andThen_some (hU _ (by omega)) (fun a m q h => by cases h)
    · rw [primary]
      split
      · next h0 =>
        have hl : l ≠ [] := by rintro rfl; exact h0 rfl
        have := tail_len hl
        exact must_some fun s1 => andThen_some (hE _ _ (by have := tail_len (isT_ne s1); omega)) (fun a m q => must_some fun _ h => by cases h)
      · split
        · intro h; cases h
        · split
          · next h1 =>
            have hl : l ≠ [] := by rintro rfl; cases h1
            have := tail_len hl
            split
            · next s1 => exact andThen_some (hE _ _ (by have := tail_len (isT_ne s1); omega)) (fun a m q => must_some fun _ h => by cases h)
            · split
              · next s1 => exact andThen_some (hA _ (by have := tail_len (isT_ne s1); omega)) (fun a m q h => by cases h)
              · intro h; cases h
          · exact must_some fun s1 => andThen_some (hE _ _ (by have := tail_len (isT_ne s1); omega)) (fun a m q => must_some fun _ h => by cases h)
    · rw [args]
      split
      · intro h; cases h
      · exact andThen_some (hE _ _ (by omega)) (fun a m q => hN _ _ (by have := zE _ _ _ _ q; have := szE_pos a; omega))
    · rw [argsMore]
      split
      · next s1 =>
        have := tail_len (isT_ne s1)
        exact andThen_some (hE _ _ (by omega)) (fun a m q => hN _ _ (by have := zE _ _ _ _ q; omega))
      · exact must_some fun _ h => by cases h
end Go.Proofs.YtnjnadlgndjnbaaDoor.Fp
