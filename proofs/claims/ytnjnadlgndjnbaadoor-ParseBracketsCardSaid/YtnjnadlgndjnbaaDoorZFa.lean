/- Parse: the parser of expressions as a plain function of what is left of the tokens; a token that ends an expression may stand behind it. -/
import Derived.Test.YtnjnadlgndjnbaaDoorZAx0
set_option linter.unusedVariables false
set_option linter.unusedSimpArgs false
namespace Go.Proofs.YtnjnadlgndjnbaaDoor.Fp
abbrev SE := Go.Proofs.YtnjnadlgndjnbaaDoor.A.S26
abbrev Key := Int × List UInt8 × Int
inductive Res (α : Type) where
  | ok (a : α) (rest : List Key)
  | bad (rest : List Key)
def isT (s : List UInt8) : List Key → Bool
  | [] => false
  | k :: _ => (k.1 == 2 || k.1 == 4) && k.2.1 == s
def must {α : Type} (s : List UInt8) (l : List Key) (f : List Key → Option (Res α)) : Option (Res α) := if isT s l then f l.tail else some (.bad l)
def andThen {α β : Type} (r : Option (Res α)) (f : α → List Key → Option (Res β)) : Option (Res β) := match r with
  | none => none
  | some (.bad l) => some (.bad l)
  | some (.ok a l) => f a l
def levelOps : Nat → List (List UInt8 × Int)
  | 1 => [([124], 9)]
  | 2 => [([94], 10)]
  | 3 => [([38], 8)]
  | 4 => [([61, 61], 14), ([33, 61], 15)]
  | 5 => [([60], 16), ([60, 61], 17), ([62], 20), ([62, 61], 21)]
  | 6 => [([60, 60], 11), ([62, 62], 12)]
  | 7 => [([43], 1), ([45], 2)]
  | 8 => [([42], 3), ([47], 4), ([37], 5)]
  | _ => []
def typeOf (s : List UInt8) : Int := if s = [117, 56] then 1 else if s = [117, 49, 54] then 2 else if s = [117, 51, 50] then 3 else if s = [105, 51, 50] then 4 else 0
def typeAt : List Key → Int
  | [] => 0
  | k :: _ => if k.1 == 2 then typeOf k.2.1 else 0
def unOp (l : List Key) : Int := if isT [45] l then 1 else if isT [126] l then 2 else if isT [33] l then 3 else 0
def kindAt : List Key → Int
  | [] => 0
  | k :: _ => k.1
def textAt : List Key → List UInt8
  | [] => []
  | k :: _ => k.2.1
def numAt : List Key → Int
  | [] => 0
  | k :: _ => k.2.2
def eBin (op : Int) (a b : SE) : SE := ⟨6, op, 0, 0, ⟨#[]⟩, [a, b]⟩
def eUn (op : Int) (a : SE) : SE := ⟨5, op, 0, 0, ⟨#[]⟩, [a]⟩
def eCast (ty : Int) (a : SE) : SE := ⟨7, 0, ty, 0, ⟨#[]⟩, [a]⟩
def eNum (n : Int) : SE := ⟨1, 0, 0, n, ⟨#[]⟩, []⟩
def eVar (s : List UInt8) : SE := ⟨2, 0, 0, 0, ⟨s.toArray⟩, []⟩
def eIndex (s : List UInt8) (a : SE) : SE := ⟨3, 0, 0, 0, ⟨s.toArray⟩, [a]⟩
def eCall (s : List UInt8) (l : List SE) : SE := ⟨4, 0, 0, 0, ⟨s.toArray⟩, l⟩
mutual
def expr : Nat → Nat → List Key → Option (Res SE)
  | 0, _, _ => none
  | k + 1, level, l => if 8 < level then unary k l else andThen (expr k (level + 1) l) fun e r => more k level e r
def more : Nat → Nat → SE → List Key → Option (Res SE)
  | 0, _, _, _ => none
  | k + 1, level, e, l => match (levelOps level).find? (fun o => isT o.1 l) with
    | none => some (.ok e l)
    | some o => andThen (expr k (level + 1) l.tail) fun e2 r => more k level (eBin o.2 e e2) r
def unary : Nat → List Key → Option (Res SE)
  | 0, _ => none
  | k + 1, l => if unOp l = 0 then primary k l else andThen (unary k l.tail) fun e r => some (.ok (eUn (unOp l) e) r)
def primary : Nat → List Key → Option (Res SE)
  | 0, _ => none
  | k + 1, l =>
    if typeAt l ≠ 0 then must [40] l.tail fun r => andThen (expr k 1 r) fun e r => must [41] r fun r => some (.ok (eCast (typeAt l) e) r)
    else if kindAt l = 3 then some (.ok (eNum (numAt l)) l.tail)
    else if kindAt l = 1 then
      if isT [91] l.tail then andThen (expr k 1 l.tail.tail) fun e r => must [93] r fun r => some (.ok (eIndex (textAt l) e) r)
      else if isT [40] l.tail then andThen (args k l.tail.tail) fun a r => some (.ok (eCall (textAt l) a) r)
      else some (.ok (eVar (textAt l)) l.tail)
    else must [40] l fun r => andThen (expr k 1 r) fun e r => must [41] r fun r => some (.ok e r)
def args : Nat → List Key → Option (Res (List SE))
  | 0, _ => none
  | k + 1, l => if isT [41] l then some (.ok [] l.tail) else andThen (expr k 1 l) fun e r => argsMore k [e] r
def argsMore : Nat → List SE → List Key → Option (Res (List SE))
  | 0, _, _ => none
  | k + 1, a, l => if isT [44] l then andThen (expr k 1 l.tail) fun e r => argsMore k (a ++ [e]) r else must [41] l fun r => some (.ok a r)
end
def Ends (x : Key) : Prop := x.1 = 4 ∧ (x.2.1 = [41] ∨ x.2.1 = [93])
theorem isT_app (s : List UInt8) (x : Key) (t : List Key) (hx : isT s [x] = false) (l : List Key) : isT s (l ++ x :: t) = isT s l := by
  cases l with
  | nil => exact hx
  | cons a l => rfl
theorem tail_app {l : List Key} (h : l ≠ []) (t : List Key) : (l ++ t).tail = l.tail ++ t := by
  cases l with
  | nil => exact absurd rfl h
  | cons a l => rfl
theorem isT_ne {s : List UInt8} {l : List Key} (h : isT s l = true) : l ≠ [] := by rintro rfl; cases h
theorem andThen_ok {α β : Type} {r : Option (Res α)} {f : α → List Key → Option (Res β)} {b : β} {m : List Key} (h : andThen r f = some (.ok b m)) : ∃ a l, r = some (.ok a l) ∧ f a l = some (.ok b m) := by
  cases r with
  | none => cases h
  | some r => cases r with
    | bad l => cases h
    | ok a l => exact ⟨a, l, rfl, h⟩
theorem must_ok {α : Type} {s : List UInt8} {l : List Key} {f : List Key → Option (Res α)} {b : α} {m : List Key} (h : must s l f = some (.ok b m)) : isT s l = true ∧ f l.tail = some (.ok b m) := by
  unfold must at h
  cases hs : isT s l
  · rw [hs] at h; cases h
  · rw [hs] at h; exact ⟨rfl, h⟩
theorem isT_l (s : List UInt8) {l : List Key} (h : l ≠ []) (t : List Key) : isT s (l ++ t) = isT s l := by
  cases l with
  | nil => exact absurd rfl h
  | cons a l => rfl
theorem must_app {α : Type} {s : List UInt8} {l : List Key} (h : isT s l = true) (t : List Key) (f : List Key → Option (Res α)) : must s (l ++ t) f = f (l.tail ++ t) := by
  unfold must
  rw [isT_l _ (isT_ne h), if_pos h, tail_app (isT_ne h)]
theorem ops_ne : ∀ level : Nat, ∀ o ∈ levelOps level, o.1 ≠ [41] ∧ o.1 ≠ [93]
  | 0 => by decide
  | 1 => by decide
  | 2 => by decide
  | 3 => by decide
  | 4 => by decide
  | 5 => by decide
  | 6 => by decide
  | 7 => by decide
  | 8 => by decide
  | _ + 9 => fun o ho => by cases ho
theorem ends_not {x : Key} (hx : Ends x) {s : List UInt8} (h1 : s ≠ [41]) (h2 : s ≠ [93]) : isT s [x] = false := by
  obtain ⟨a, b, c⟩ := x
  obtain ⟨e1, e2⟩ := hx
  simp only at e1 e2
  subst e1
  show (((4 : Int) == 2 || (4 : Int) == 4) && b == s) = false
  have : (b == s) = false := by
    rcases e2 with rfl | rfl
    · exact beq_false_of_ne (Ne.symm h1)
    · exact beq_false_of_ne (Ne.symm h2)
  rw [this, Bool.and_false]
theorem find_same {α : Type} {p q : α → Bool} : ∀ {l : List α}, (∀ a ∈ l, p a = q a) → l.find? p = l.find? q
  | [], _ => rfl
  | a :: l, h => by rw [List.find?_cons, List.find?_cons, h a (List.mem_cons_self ..), find_same (fun b hb => h b (List.mem_cons_of_mem _ hb))]
theorem typeAt_l {l : List Key} (h : l ≠ []) (t : List Key) : typeAt (l ++ t) = typeAt l := by
  cases l with
  | nil => exact absurd rfl h
  | cons a l => rfl
theorem kindAt_l {l : List Key} (h : l ≠ []) (t : List Key) : kindAt (l ++ t) = kindAt l := by
  cases l with
  | nil => exact absurd rfl h
  | cons a l => rfl
theorem textAt_l {l : List Key} (h : l ≠ []) (t : List Key) : textAt (l ++ t) = textAt l := by
  cases l with
  | nil => exact absurd rfl h
  | cons a l => rfl
theorem numAt_l {l : List Key} (h : l ≠ []) (t : List Key) : numAt (l ++ t) = numAt l := by
  cases l with
  | nil => exact absurd rfl h
  | cons a l => rfl
theorem unOp_l {l : List Key} (h : l ≠ []) (t : List Key) : unOp (l ++ t) = unOp l := by unfold unOp; rw [isT_l _ h, isT_l _ h, isT_l _ h]
theorem some_left : ∀ k : Nat, (∀ lv l e r, expr k lv l = some (.ok e r) → l ≠ []) ∧ (∀ l e r, unary k l = some (.ok e r) → l ≠ []) ∧ (∀ l e r, primary k l = some (.ok e r) → l ≠ [])
  | 0 => ⟨fun _ _ _ _ h => (by rw [expr] at h; cases h), fun _ _ _ h => (by rw [unary] at h; cases h), fun _ _ _ h => (by rw [primary] at h; cases h)⟩
  | k + 1 => by
    obtain ⟨h1, h2, h3⟩ := some_left k
    refine ⟨fun lv l e r h => ?_, fun l e r h => ?_, fun l e r h => ?_⟩
    · rw [expr] at h
      split at h
      · exact h2 _ _ _ h
      · obtain ⟨a, m, q, _⟩ := andThen_ok h
        exact h1 _ _ _ _ q
    · rintro rfl
      rw [unary, if_pos (show unOp [] = 0 from rfl)] at h
      exact h3 _ _ _ h rfl
    · rintro rfl
      rw [primary, if_neg (by simp [typeAt]), if_neg (by simp [kindAt]), if_neg (by simp [kindAt])] at h
      cases h
theorem stops {x : Key} (hx : Ends x) (t : List Key) : ∀ k : Nat,
    (∀ lv l e r, expr k lv l = some (.ok e r) → expr k lv (l ++ x :: t) = some (.ok e (r ++ x :: t))) ∧
    (∀ lv e0 l e r, more k lv e0 l = some (.ok e r) → more k lv e0 (l ++ x :: t) = some (.ok e (r ++ x :: t))) ∧
    (∀ l e r, unary k l = some (.ok e r) → unary k (l ++ x :: t) = some (.ok e (r ++ x :: t))) ∧
    (∀ l e r, primary k l = some (.ok e r) → primary k (l ++ x :: t) = some (.ok e (r ++ x :: t))) ∧
    (∀ l e r, args k l = some (.ok e r) → args k (l ++ x :: t) = some (.ok e (r ++ x :: t))) ∧
    (∀ a l e r, argsMore k a l = some (.ok e r) → argsMore k a (l ++ x :: t) = some (.ok e (r ++ x :: t)))
  | 0 => ⟨fun _ _ _ _ h => (by rw [expr] at h; cases h), fun _ _ _ _ _ h => (by rw [more] at h; cases h), fun _ _ _ h => (by rw [unary] at h; cases h), fun _ _ _ h => (by rw [primary] at h; cases h), fun _ _ _ h => (by rw [args] at h; cases h), fun _ _ _ _ h => (by rw [argsMore] at h; cases h)⟩
  | k + 1 => by
    obtain ⟨hE, hM, hU, hP, hA, hN⟩ := stops hx t k
    obtain ⟨n1, n2, n3⟩ := some_left k
    refine ⟨fun lv l e r h => ?_, fun lv e0 l e r h => ?_, fun l e r h => ?_, fun l e r h => ?_, fun l e r h => ?_, fun a l e r h => ?_⟩
    · rw [expr] at h ⊢
      split at h
      · next h8 => rw [if_pos h8]; exact hU _ _ _ h
      · next h8 =>
        rw [if_neg h8]
        obtain ⟨a, m, q1, q2⟩ := andThen_ok h
        rw [hE _ _ _ _ q1]
        exact hM _ _ _ _ _ q2
    · rw [more] at h ⊢
      have hf : (levelOps lv).find? (fun o => isT o.1 (l ++ x :: t)) = (levelOps lv).find? (fun o => isT o.1 l) := find_same (fun o ho => isT_app _ _ _ (ends_not hx (ops_ne lv o ho).1 (ops_ne lv o ho).2) _)
      rw [hf]
      cases ho : (levelOps lv).find? (fun o => isT o.1 l) with
      | none => rw [ho] at h; simp only [Option.some.injEq, Res.ok.injEq] at h; obtain ⟨rfl, rfl⟩ := h; rfl
      | some o =>
        rw [ho] at h
        simp only at h ⊢
        obtain ⟨a, m, q1, q2⟩ := andThen_ok h
        rw [tail_app (isT_ne (show isT o.1 l = true from by simpa using List.find?_some ho)), hE _ _ _ _ q1]
        exact hM _ _ _ _ _ q2
    · rw [unary] at h ⊢
      by_cases hl : l = []
      · subst hl
        rw [if_pos (show unOp [] = 0 from rfl)] at h
        exact absurd rfl (n3 _ _ _ h)
      · rw [unOp_l hl]
        split at h
        · next h0 => rw [if_pos h0]; exact hP _ _ _ h
        · next h0 =>
          rw [if_neg h0]
          obtain ⟨a, m, q1, q2⟩ := andThen_ok h
          rw [tail_app hl, hU _ _ _ q1]
          simp only [Option.some.injEq, Res.ok.injEq] at q2
          obtain ⟨rfl, rfl⟩ := q2
          rfl
    · by_cases hl : l = []
      · subst hl
        rw [primary, if_neg (by simp [typeAt]), if_neg (by simp [kindAt]), if_neg (by simp [kindAt])] at h
        cases h
      · rw [primary] at h ⊢
        rw [typeAt_l hl, show kindAt (l ++ x :: t) = kindAt l from kindAt_l hl _, show textAt (l ++ x :: t) = textAt l from textAt_l hl _, show numAt (l ++ x :: t) = numAt l from numAt_l hl _, tail_app hl]
        split at h
        · next h0 =>
          rw [if_pos h0]
          obtain ⟨s1, h⟩ := must_ok h
          obtain ⟨a, m, q1, h⟩ := andThen_ok h
          obtain ⟨s2, h⟩ := must_ok h
          simp only [Option.some.injEq, Res.ok.injEq] at h
          obtain ⟨rfl, rfl⟩ := h
          rw [must_app s1, hE _ _ _ _ q1]
          simp only [andThen]
          rw [must_app s2]
        · next h0 =>
          rw [if_neg h0]
          split at h
          · next h3 =>
            rw [if_pos h3]
            simp only [Option.some.injEq, Res.ok.injEq] at h
            obtain ⟨rfl, rfl⟩ := h
            rfl
          · next h3 =>
            rw [if_neg h3]
            split at h
            · next h1 =>
              rw [if_pos h1, isT_app _ _ _ (ends_not hx (by decide) (by decide)), isT_app _ _ _ (ends_not hx (by decide) (by decide))]
              split at h
              · next s1 =>
                rw [if_pos s1]
                obtain ⟨a, m, q1, h⟩ := andThen_ok h
                obtain ⟨s2, h⟩ := must_ok h
                simp only [Option.some.injEq, Res.ok.injEq] at h
                obtain ⟨rfl, rfl⟩ := h
                rw [tail_app (isT_ne s1), hE _ _ _ _ q1]
                simp only [andThen]
                rw [must_app s2]
              · next s1 =>
                rw [if_neg s1]
                split at h
                · next s2 =>
                  rw [if_pos s2]
                  obtain ⟨a, m, q1, h⟩ := andThen_ok h
                  simp only [Option.some.injEq, Res.ok.injEq] at h
                  obtain ⟨rfl, rfl⟩ := h
                  rw [tail_app (isT_ne s2), hA _ _ _ q1]
                  rfl
                · next s2 =>
                  rw [if_neg s2]
                  simp only [Option.some.injEq, Res.ok.injEq] at h
                  obtain ⟨rfl, rfl⟩ := h
                  rfl
            · next h1 =>
              rw [if_neg h1]
              obtain ⟨s1, h⟩ := must_ok h
              obtain ⟨a, m, q1, h⟩ := andThen_ok h
              obtain ⟨s2, h⟩ := must_ok h
              simp only [Option.some.injEq, Res.ok.injEq] at h
              obtain ⟨rfl, rfl⟩ := h
              rw [must_app s1, hE _ _ _ _ q1]
              simp only [andThen]
              rw [must_app s2]
    · rw [args] at h ⊢
      by_cases hl : l = []
      · subst hl
        rw [if_neg (by simp [isT])] at h
        obtain ⟨a, m, q1, _⟩ := andThen_ok h
        exact absurd rfl (n1 _ _ _ _ q1)
      · rw [isT_l _ hl]
        split at h
        · next s1 =>
          rw [if_pos s1]
          simp only [Option.some.injEq, Res.ok.injEq] at h
          obtain ⟨rfl, rfl⟩ := h
          rw [tail_app hl]
        · next s1 =>
          rw [if_neg s1]
          obtain ⟨a, m, q1, q2⟩ := andThen_ok h
          rw [hE _ _ _ _ q1]
          exact hN _ _ _ _ q2
    · rw [argsMore] at h ⊢
      by_cases hl : l = []
      · subst hl
        rw [if_neg (by simp [isT])] at h
        obtain ⟨s1, _⟩ := must_ok h
        cases s1
      · rw [isT_l _ hl]
        split at h
        · next s1 =>
          rw [if_pos s1]
          obtain ⟨a, m, q1, q2⟩ := andThen_ok h
          rw [tail_app hl, hE _ _ _ _ q1]
          exact hN _ _ _ _ q2
        · next s1 =>
          rw [if_neg s1]
          obtain ⟨s2, h⟩ := must_ok h
          simp only [Option.some.injEq, Res.ok.injEq] at h
          obtain ⟨rfl, rfl⟩ := h
          rw [must_app s2]
end Go.Proofs.YtnjnadlgndjnbaaDoor.Fp
