/- Package ast: CheckExpr and CheckStmt, Size and Deep in the shapes in which the printed texts call them. -/
import Derived.Test.YtgkhpecllhiidaaDoorAp
set_option linter.unusedVariables false
set_option linter.unusedSimpArgs false
namespace Go.Proofs.YtgkhpecllhiidaaDoor.A
open Go.RowKit Go.Shelf Go.Proofs.YtgkhpecllhiidaaDoor.As Go.Proofs.YtgkhpecllhiidaaDoorW.PrintWords Go.Proofs.YtgkhpecllhiidaaDoorW.PrintLast Go.Proofs.YtgkhpecllhiidaaDoorW.PrintMore

mutual
def okE : SE → Bool
  | ⟨_, _, _, _, s, l⟩ => decide (s.size ≤ 140737488351232) && okEs l
def okEs : List SE → Bool
  | [] => true
  | e :: l => okE e && okEs l
end
mutual
def okS : SS → Bool
  | ⟨_, _, _, _, s, n, i, x, t, e⟩ => decide (s.size ≤ 140737488351232) && n.all (fun y => decide (y.size ≤ 140737488351232)) && (okEs i && okEs x) && (okSs t && okSs e)
def okSs : List SS → Bool
  | [] => true
  | e :: l => okS e && okSs l
end
def okN : Nd → Bool
  | .ex e => okE e
  | .st s => okS s
mutual
theorem ok_allE : ∀ e : SE, okE e = true → AllN szN (.ex e)
  | ⟨a, b, c, d, s, l⟩, h => by
    rw [okE, Bool.and_eq_true] at h
    exact .mk _ (show s.size ≤ 140737488351232 from of_decide_eq_true h.1) (fun y hy => by obtain ⟨z, hz, rfl⟩ := List.mem_map.1 hy; exact ok_allEs l h.2 z hz)
theorem ok_allEs : ∀ l : List SE, okEs l = true → ∀ z ∈ l, AllN szN (.ex z)
  | [], _, z, hz => by cases hz
  | e :: l, h, z, hz => by
    rw [okEs, Bool.and_eq_true] at h
    rcases List.mem_cons.1 hz with hz | hz
    · rw [hz]; exact ok_allE e h.1
    · exact ok_allEs l h.2 z hz
end
mutual
theorem ok_allS : ∀ e : SS, okS e = true → AllN szN (.st e)
  | ⟨a, b, c, d, s, n, i, x, t, e⟩, h => by
    rw [okS, Bool.and_eq_true, Bool.and_eq_true, Bool.and_eq_true, Bool.and_eq_true, Bool.and_eq_true] at h
    obtain ⟨⟨⟨h1, h2⟩, h3, h4⟩, h5, h6⟩ := h
    refine .mk _ ⟨of_decide_eq_true h1, fun y hy => of_decide_eq_true (List.all_eq_true.1 h2 y hy)⟩ (fun y hy => ?_)
    unfold Nd.kids at hy
    simp only [List.mem_append, List.mem_map] at hy
    rcases hy with ((⟨z, hz, rfl⟩ | ⟨z, hz, rfl⟩) | ⟨z, hz, rfl⟩) | ⟨z, hz, rfl⟩
    · exact ok_allEs i h3 z hz
    · exact ok_allEs x h4 z hz
    · exact ok_allSs t h5 z hz
    · exact ok_allSs e h6 z hz
theorem ok_allSs : ∀ l : List SS, okSs l = true → ∀ z ∈ l, AllN szN (.st z)
  | [], _, z, hz => by cases hz
  | e :: l, h, z, hz => by
    rw [okSs, Bool.and_eq_true] at h
    rcases List.mem_cons.1 hz with hz | hz
    · rw [hz]; exact ok_allS e h.1
    · exact ok_allSs l h.2 z hz
end
theorem ok_all : ∀ x : Nd, okN x = true → AllN szN x
  | .ex e, h => ok_allE e h
  | .st s, h => ok_allS s h
mutual
theorem all_okE : ∀ e : SE, AllN szN (.ex e) → okE e = true
  | ⟨a, b, c, d, s, l⟩, h => by
    rw [okE, Bool.and_eq_true]
    exact ⟨decide_eq_true h.own, all_okEs l (fun z hz => h.kid (y := .ex z) (List.mem_map.2 ⟨z, hz, rfl⟩))⟩
theorem all_okEs : ∀ l : List SE, (∀ z ∈ l, AllN szN (.ex z)) → okEs l = true
  | [], _ => rfl
  | e :: l, h => by
    rw [okEs, Bool.and_eq_true]
    exact ⟨all_okE e (h e (List.mem_cons_self ..)), all_okEs l (fun z hz => h z (List.mem_cons_of_mem _ hz))⟩
end
mutual
theorem all_okS : ∀ e : SS, AllN szN (.st e) → okS e = true
  | ⟨a, b, c, d, s, n, i, x, t, e⟩, h => by
    rw [okS, Bool.and_eq_true, Bool.and_eq_true, Bool.and_eq_true, Bool.and_eq_true, Bool.and_eq_true]
    have k : ∀ y, y ∈ (Nd.st ⟨a, b, c, d, s, n, i, x, t, e⟩).kids → AllN szN y := fun y hy => h.kid hy
    unfold Nd.kids at k
    simp only [List.mem_append, List.mem_map] at k
    refine ⟨⟨⟨decide_eq_true h.own.1, List.all_eq_true.2 fun y hy => decide_eq_true (h.own.2 y hy)⟩, all_okEs i (fun z hz => ?_), all_okEs x (fun z hz => ?_)⟩, all_okSs t (fun z hz => ?_), all_okSs e (fun z hz => ?_)⟩
    · exact k _ (.inl (.inl (.inl ⟨z, hz, rfl⟩)))
    · exact k _ (.inl (.inl (.inr ⟨z, hz, rfl⟩)))
    · exact k _ (.inl (.inr ⟨z, hz, rfl⟩))
    · exact k _ (.inr ⟨z, hz, rfl⟩)
theorem all_okSs : ∀ l : List SS, (∀ z ∈ l, AllN szN (.st z)) → okSs l = true
  | [], _ => rfl
  | e :: l, h => by
    rw [okSs, Bool.and_eq_true]
    exact ⟨all_okS e (h e (List.mem_cons_self ..)), all_okSs l (fun z hz => h z (List.mem_cons_of_mem _ hz))⟩
end
theorem all_ok : ∀ x : Nd, AllN szN x → okN x = true
  | .ex e, h => all_okE e h
  | .st s, h => all_okS s h
/-- What the walk asks of a node: nothing in it is larger than a machine's numbers reach. -/
def fitB (x : Nd) : Bool := decide (x.size < 4611686018427387904) && decide (x.deep < 4611686018427387904) && okN x
theorem fit_parts {x : Nd} (h : fitB x = true) : x.size < 4611686018427387904 ∧ x.deep < 4611686018427387904 ∧ AllN szN x := by
  unfold fitB at h
  rw [Bool.and_eq_true, Bool.and_eq_true] at h
  exact ⟨of_decide_eq_true h.1.1, of_decide_eq_true h.1.2, ok_all x h.2⟩
theorem fit_of {x : Nd} (h1 : x.size < 4611686018427387904) (h2 : x.deep < 4611686018427387904) (h3 : AllN szN x) : fitB x = true := by
  unfold fitB
  rw [decide_eq_true h1, decide_eq_true h2, all_ok x h3]; rfl
def ast_CheckExpr.f (a0 a1 a2 a3 : Int) (a4 : ByteArray) (l : List SE) : Option Int := if fitB (.ex ⟨a0, a1, a2, a3, a4, l⟩) = true then some (checkN [.ex ⟨a0, a1, a2, a3, a4, l⟩]) else none
theorem ast_CheckExpr.calls (a0 a1 a2 a3 : Int) (a4 : ByteArray) (A : Option Addr) (c : Nat) (l : List SE) (r : Int) (w : World) (hG : Keys w) (hC : Kd.C k25 w A l.length l) (hl : l.length ≤ c) (h : ast_CheckExpr.f a0 a1 a2 a3 a4 l = some r) :
    Calls Tryd.prog 16 #[.agg #[.int .i64 a0, .int .i64 a1, .int .i64 a2, .int .u32 a3, .string a4, .slice A l.length c]] w fun e w' => e = .returned (.int .i64 r) ∧ Below w.heap.size w w' := by
  unfold ast_CheckExpr.f at h
  by_cases hf : fitB (.ex ⟨a0, a1, a2, a3, a4, l⟩) = true
  · rw [if_pos hf] at h
    obtain rfl := Option.some.inj h
    exact checkExpr_any ⟨a0, a1, a2, a3, a4, l⟩ A c w hG hC hl (fit_parts hf).1 (fit_parts hf).2.1 (fit_parts hf).2.2
  · rw [if_neg hf] at h; cases h
def ast_CheckStmt.f (a0 a1 a2 a3 : Int) (a4 : ByteArray) (l5 : List ByteArray) (l6 l7 : List SE) (l8 l9 : List SS) : Option Int := if fitB (.st ⟨a0, a1, a2, a3, a4, l5, l6, l7, l8, l9⟩) = true then some (checkN [.st ⟨a0, a1, a2, a3, a4, l5, l6, l7, l8, l9⟩]) else none
theorem ast_CheckStmt.calls (a0 a1 a2 a3 : Int) (a4 : ByteArray) (A5 : Option Addr) (c5 : Nat) (l5 : List ByteArray) (A6 : Option Addr) (c6 : Nat) (l6 : List SE) (A7 : Option Addr) (c7 : Nat) (l7 : List SE) (A8 : Option Addr) (c8 : Nat) (l8 : List SS) (A9 : Option Addr) (c9 : Nat) (l9 : List SS) (r : Int) (w : World) (hG : Keys w)
    (hC5 : Kd.C Kd.string w A5 l5.length l5) (hl5 : l5.length ≤ c5) (hC6 : Kd.C k25 w A6 l6.length l6) (hl6 : l6.length ≤ c6) (hC7 : Kd.C k25 w A7 l7.length l7) (hl7 : l7.length ≤ c7) (hC8 : Kd.C k38 w A8 l8.length l8) (hl8 : l8.length ≤ c8) (hC9 : Kd.C k38 w A9 l9.length l9) (hl9 : l9.length ≤ c9)
    (h : ast_CheckStmt.f a0 a1 a2 a3 a4 l5 l6 l7 l8 l9 = some r) :
    Calls Tryd.prog 22 #[.agg #[.int .i64 a0, .int .i64 a1, .int .i64 a2, .int .i64 a3, .string a4, .slice A5 l5.length c5, .slice A6 l6.length c6, .slice A7 l7.length c7, .slice A8 l8.length c8, .slice A9 l9.length c9]] w fun e w' => e = .returned (.int .i64 r) ∧ Below w.heap.size w w' := by
  unfold ast_CheckStmt.f at h
  by_cases hf : fitB (.st ⟨a0, a1, a2, a3, a4, l5, l6, l7, l8, l9⟩) = true
  · rw [if_pos hf] at h
    obtain rfl := Option.some.inj h
    exact checkStmt_any ⟨a0, a1, a2, a3, a4, l5, l6, l7, l8, l9⟩ A5 A6 A7 A8 A9 c5 c6 c7 c8 c9 w hG hC5 hC6 hC7 hC8 hC9 hl5 hl6 hl7 hl8 hl9 (fit_parts hf).1 (fit_parts hf).2.1 (fit_parts hf).2.2
  · rw [if_neg hf] at h; cases h
end Go.Proofs.YtgkhpecllhiidaaDoor.A
