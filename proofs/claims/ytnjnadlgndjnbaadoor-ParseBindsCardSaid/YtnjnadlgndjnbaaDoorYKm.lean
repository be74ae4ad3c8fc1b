/- Parse: the trees' names are those of tokens; how deep and how large they are. -/
import Derived.Test.YtnjnadlgndjnbaaDoorYFb
import Derived.Test.YtnjnadlgndjnbaaDoorYAq
set_option linter.unusedVariables false
set_option linter.unusedSimpArgs false
namespace Go.Proofs.YtnjnadlgndjnbaaDoor.Fp
open Go.Proofs.YtnjnadlgndjnbaaDoor.A (sizeE sizeEs deepE deepEs okE okEs)
def Short (l : List Key) : Prop := ∀ x ∈ l, x.2.1.length ≤ 65536
theorem Short.tail {l : List Key} (h : Short l) : Short l.tail := fun x hx => h x (List.mem_of_mem_tail hx)
theorem short_text {l : List Key} (h : Short l) : (textAt l).length ≤ 65536 := by
  cases l with
  | nil => exact Nat.zero_le _
  | cons x l => exact h x (List.mem_cons_self ..)
theorem ok_mk (a b c d : Int) (s : ByteArray) (l : List SE) (hs : s.size ≤ 65536) (hl : okEs l = true) : okE ⟨a, b, c, d, s, l⟩ = true := by
  rw [okE, hl, Bool.and_true]; exact decide_eq_true (by omega)
theorem ok_one {e : SE} (h : okE e = true) : okEs [e] = true := by rw [okEs, h, okEs]; rfl
theorem ok_two {a b : SE} (h : okE a = true) (k : okE b = true) : okEs [a, b] = true := by rw [okEs, h, okEs, k, okEs]; rfl
theorem ok_app : ∀ (a b : List SE), okEs a = true → okEs b = true → okEs (a ++ b) = true
  | [], b, _, h => h
  | x :: a, b, h, k => by
    rw [okEs, Bool.and_eq_true] at h
    rw [List.cons_append, okEs, h.1, ok_app a b h.2 k]; rfl
theorem oks : ∀ k : Nat,
    (∀ lv l e r, Short l → expr k lv l = some (.ok e r) → okE e = true ∧ Short r) ∧ (∀ lv e0 l e r, Short l → okE e0 = true → more k lv e0 l = some (.ok e r) → okE e = true ∧ Short r) ∧ (∀ l e r, Short l → unary k l = some (.ok e r) → okE e = true ∧ Short r) ∧
    (∀ l e r, Short l → primary k l = some (.ok e r) → okE e = true ∧ Short r) ∧ (∀ l a r, Short l → args k l = some (.ok a r) → okEs a = true ∧ Short r) ∧ (∀ a0 l a r, Short l → okEs a0 = true → argsMore k a0 l = some (.ok a r) → okEs a = true ∧ Short r)
  | 0 => ⟨fun _ _ _ _ _ h => (by rw [expr] at h; cases h), fun _ _ _ _ _ _ _ h => (by rw [more] at h; cases h), fun _ _ _ _ h => (by rw [unary] at h; cases h), fun _ _ _ _ h => (by rw [primary] at h; cases h), fun _ _ _ _ h => (by rw [args] at h; cases h), fun _ _ _ _ _ _ h => (by rw [argsMore] at h; cases h)⟩
  | k + 1 => by
    obtain ⟨hE, hM, hU, hP, hA, hN⟩ := oks k
    refine ⟨fun lv l e r hs h => ?_, fun lv e0 l e r hs h0 h => ?_, fun l e r hs h => ?_, fun l e r hs h => ?_, fun l a r hs h => ?_, fun a0 l a r hs h0 h => ?_⟩
    · rw [expr] at h
      split at h
      · exact hU _ _ _ hs h
      · obtain ⟨a, m, q1, q2⟩ := andThen_ok h
        obtain ⟨o1, s1⟩ := hE _ _ _ _ hs q1
        exact hM _ _ _ _ _ s1 o1 q2
    · rw [more] at h
      cases ho : (levelOps lv).find? (fun o => isT o.1 l) with
      | none => rw [ho] at h; simp only [Option.some.injEq, Res.ok.injEq] at h; obtain ⟨rfl, rfl⟩ := h; exact ⟨h0, hs⟩
      | some o =>
        rw [ho] at h
        simp only at h
        obtain ⟨a, m, q1, q2⟩ := andThen_ok h
        obtain ⟨o1, s1⟩ := hE _ _ _ _ hs.tail q1
        exact hM _ _ _ _ _ s1 (ok_mk _ _ _ _ _ _ (Nat.zero_le _) (ok_two h0 o1)) q2
    · rw [unary] at h
      split at h
      · exact hP _ _ _ hs h
      · obtain ⟨a, m, q1, q2⟩ := andThen_ok h
        simp only [Option.some.injEq, Res.ok.injEq] at q2
        obtain ⟨rfl, rfl⟩ := q2
        obtain ⟨o1, s1⟩ := hU _ _ _ hs.tail q1
        exact ⟨ok_mk _ _ _ _ _ _ (Nat.zero_le _) (ok_one o1), s1⟩
    · rw [primary] at h
      split at h
      · obtain ⟨s1, h⟩ := must_ok h
        obtain ⟨a, m, q1, h⟩ := andThen_ok h
        obtain ⟨s2, h⟩ := must_ok h
        simp only [Option.some.injEq, Res.ok.injEq] at h
        obtain ⟨rfl, rfl⟩ := h
        obtain ⟨o1, z1⟩ := hE _ _ _ _ hs.tail.tail q1
        exact ⟨ok_mk _ _ _ _ _ _ (Nat.zero_le _) (ok_one o1), z1.tail⟩
      · split at h
        · simp only [Option.some.injEq, Res.ok.injEq] at h
          obtain ⟨rfl, rfl⟩ := h
          exact ⟨ok_mk _ _ _ _ _ _ (Nat.zero_le _) rfl, hs.tail⟩
        · split at h
          · split at h
            · obtain ⟨a, m, q1, h⟩ := andThen_ok h
              obtain ⟨s2, h⟩ := must_ok h
              simp only [Option.some.injEq, Res.ok.injEq] at h
              obtain ⟨rfl, rfl⟩ := h
              obtain ⟨o1, z1⟩ := hE _ _ _ _ hs.tail.tail q1
              exact ⟨ok_mk _ _ _ _ _ _ (by have := short_text hs; simpa [ByteArray.size] using this) (ok_one o1), z1.tail⟩
            · split at h
              · obtain ⟨a, m, q1, h⟩ := andThen_ok h
                simp only [Option.some.injEq, Res.ok.injEq] at h
                obtain ⟨rfl, rfl⟩ := h
                obtain ⟨o1, z1⟩ := hA _ _ _ hs.tail.tail q1
                exact ⟨ok_mk _ _ _ _ _ _ (by have := short_text hs; simpa [ByteArray.size] using this) o1, z1⟩
              · simp only [Option.some.injEq, Res.ok.injEq] at h
                obtain ⟨rfl, rfl⟩ := h
                exact ⟨ok_mk _ _ _ _ _ _ (by have := short_text hs; simpa [ByteArray.size] using this) rfl, hs.tail⟩
          · obtain ⟨s1, h⟩ := must_ok h
            obtain ⟨a, m, q1, h⟩ := andThen_ok h
            obtain ⟨s2, h⟩ := must_ok h
            simp only [Option.some.injEq, Res.ok.injEq] at h
            obtain ⟨rfl, rfl⟩ := h
            obtain ⟨o1, z1⟩ := hE _ _ _ _ hs.tail q1
            exact ⟨o1, z1.tail⟩
    · rw [args] at h
      split at h
      · simp only [Option.some.injEq, Res.ok.injEq] at h
        obtain ⟨rfl, rfl⟩ := h
        exact ⟨rfl, hs.tail⟩
      · obtain ⟨a, m, q1, q2⟩ := andThen_ok h
        obtain ⟨o1, s1⟩ := hE _ _ _ _ hs q1
        exact hN _ _ _ _ s1 (ok_one o1) q2
    · rw [argsMore] at h
      split at h
      · obtain ⟨a, m, q1, q2⟩ := andThen_ok h
        obtain ⟨o1, s1⟩ := hE _ _ _ _ hs.tail q1
        exact hN _ _ _ _ s1 (ok_app _ _ h0 (ok_one o1)) q2
      · obtain ⟨s1, h⟩ := must_ok h
        simp only [Option.some.injEq, Res.ok.injEq] at h
        obtain ⟨rfl, rfl⟩ := h
        exact ⟨h0, hs.tail⟩
theorem andThen_bad {α β : Type} {r : Option (Res α)} {f : α → List Key → Option (Res β)} {m : List Key} (h : andThen r f = some (.bad m)) : r = some (.bad m) ∨ ∃ a l, r = some (.ok a l) ∧ f a l = some (.bad m) := by
  cases r with
  | none => cases h
  | some r => cases r with
    | bad l => obtain rfl : l = m := by simpa [andThen] using h
               exact .inl rfl
    | ok a l => exact .inr ⟨a, l, rfl, h⟩
theorem must_bad {α : Type} {s : List UInt8} {l : List Key} {f : List Key → Option (Res α)} {m : List Key} (h : must s l f = some (.bad m)) : l = m ∨ f l.tail = some (.bad m) := by
  unfold must at h
  split at h
  · exact .inr h
  · exact .inl (by simpa using h)
theorem tail_le (l : List Key) : l.tail.length ≤ l.length := by cases l <;> simp
theorem bads : ∀ k : Nat,
    (∀ lv l r, expr k lv l = some (.bad r) → r.length ≤ l.length) ∧ (∀ lv e0 l r, more k lv e0 l = some (.bad r) → r.length ≤ l.length) ∧ (∀ l r, unary k l = some (.bad r) → r.length ≤ l.length) ∧
    (∀ l r, primary k l = some (.bad r) → r.length ≤ l.length) ∧ (∀ l r, args k l = some (.bad r) → r.length ≤ l.length) ∧ (∀ a0 l r, argsMore k a0 l = some (.bad r) → r.length ≤ l.length)
  | 0 => ⟨fun _ _ _ h => (by rw [expr] at h; cases h), fun _ _ _ _ h => (by rw [more] at h; cases h), fun _ _ h => (by rw [unary] at h; cases h), fun _ _ h => (by rw [primary] at h; cases h), fun _ _ h => (by rw [args] at h; cases h), fun _ _ _ h => (by rw [argsMore] at h; cases h)⟩
  | k + 1 => by
    obtain ⟨hE, hM, hU, hP, hA, hN⟩ := bads k
    obtain ⟨lE, lM, lU, lP, lA, lN⟩ := lens k
    have t1 : ∀ l : List Key, l.tail.length ≤ l.length := tail_le
    refine ⟨fun lv l r h => ?_, fun lv e0 l r h => ?_, fun l r h => ?_, fun l r h => ?_, fun l r h => ?_, fun a0 l r h => ?_⟩
    · rw [expr] at h
      split at h
      · exact hU _ _ h
      · rcases andThen_bad h with q | ⟨a, m, q1, q2⟩
        · exact hE _ _ _ q
        · have := lE _ _ _ _ q1; have := hM _ _ _ _ q2; omega
    · rw [more] at h
      cases ho : (levelOps lv).find? (fun o => isT o.1 l) with
      | none => rw [ho] at h; simp at h
      | some o =>
        rw [ho] at h
        simp only at h
        have := t1 l
        rcases andThen_bad h with q | ⟨a, m, q1, q2⟩
        · have := hE _ _ _ q; omega
        · have := lE _ _ _ _ q1; have := hM _ _ _ _ q2; omega
    · rw [unary] at h
      have := t1 l
      split at h
      · exact hP _ _ h
      · rcases andThen_bad h with q | ⟨a, m, q1, q2⟩
        · have := hU _ _ q; omega
        · cases q2
    · rw [primary] at h
      have z1 := t1 l
      have z2 := t1 l.tail
      split at h
      · rcases must_bad h with q | h
        · rw [← q]; omega
        · rcases andThen_bad h with q | ⟨a, m, q1, h⟩
          · have := hE _ _ _ q; omega
          · have := lE _ _ _ _ q1
            rcases must_bad h with q | h
            · rw [← q]; omega
            · cases h
      · split at h
        · cases h
        · split at h
          · split at h
            · rcases andThen_bad h with q | ⟨a, m, q1, h⟩
              · have := hE _ _ _ q; omega
              · have := lE _ _ _ _ q1
                rcases must_bad h with q | h
                · rw [← q]; omega
                · cases h
            · split at h
              · rcases andThen_bad h with q | ⟨a, m, q1, h⟩
                · have := hA _ _ q; omega
                · cases h
              · cases h
          · rcases must_bad h with q | h
            · rw [← q]; omega
            · rcases andThen_bad h with q | ⟨a, m, q1, h⟩
              · have := hE _ _ _ q; omega
              · have := lE _ _ _ _ q1
                rcases must_bad h with q | h
                · rw [← q]; omega
                · cases h
    · rw [args] at h
      split at h
      · cases h
      · rcases andThen_bad h with q | ⟨a, m, q1, q2⟩
        · exact hE _ _ _ q
        · have := lE _ _ _ _ q1; have := hN _ _ _ q2; omega
    · rw [argsMore] at h
      have := t1 l
      split at h
      · rcases andThen_bad h with q | ⟨a, m, q1, q2⟩
        · have := hE _ _ _ q; omega
        · have := lE _ _ _ _ q1; have := hN _ _ _ q2; omega
      · rcases must_bad h with q | h
        · rw [← q]; omega
        · cases h
mutual
theorem deep_size : ∀ e : SE, deepE e ≤ sizeE e
  | ⟨a, b, c, d, s, l⟩ => by rw [deepE, sizeE]; have := deep_sizes l; omega
theorem deep_sizes : ∀ l : List SE, deepEs l ≤ sizeEs l
  | [] => Nat.le_refl _
  | e :: l => by rw [deepEs, sizeEs]; have := deep_size e; have := deep_sizes l; omega
end
end Go.Proofs.YtnjnadlgndjnbaaDoor.Fp
