/- AstParts: the plain law: parts of what is valid are valid, a tree is the same as itself, as itself with other Lines. -/
import Derived.Test.YtgkhpecllhiidaaDoorCq
set_option linter.unusedVariables false
set_option linter.unusedSimpArgs false
namespace Go.Proofs.YtgkhpecllhiidaaDoor.A
open Go.RowKit Go.Shelf Go.Proofs.YtgkhpecllhiidaaDoor.As Go.Proofs.YtgkhpecllhiidaaDoorW.PrintWords Go.Proofs.YtgkhpecllhiidaaDoorW.PrintLast Go.Proofs.YtgkhpecllhiidaaDoorW.PrintMore
theorem sameB_refl (e : SE) : sameB e e = true := by unfold sameB; simp
mutual
theorem sameE_rfl : ∀ e : SE, sameE e e = true
  | ⟨a, b, c, d, s, l⟩ => by rw [sameE, sameB_refl, sameEs_rfl l]; rfl
theorem sameEs_rfl : ∀ l : List SE, sameEs l l = true
  | [] => rfl
  | e :: l => by rw [sameEs, sameE_rfl e, sameEs_rfl l]; rfl
end
theorem eqL_refl {α : Type} {f : α → α → Bool} : ∀ (l : List α), (∀ x ∈ l, f x x = true) → eqL f l l = true
  | [], _ => rfl
  | a :: l, h => by rw [eqL, h a (List.mem_cons_self ..), eqL_refl l (fun x hx => h x (List.mem_cons_of_mem _ hx))]; rfl
theorem eqT_refl (l : List ByteArray) : eqT l l = true := eqL_refl l (fun x _ => by simp)
theorem eqN_refl (l : List Int) : eqN l l = true := eqL_refl l (fun x _ => by simp)
theorem eqQ_refl (l : List SQ) : eqQ l l = true := eqL_refl l (fun x _ => by simp)
theorem eqE_refl (l : List SE) : eqL sameE l l = true := eqL_refl l (fun x _ => sameE_rfl x)
mutual
/-- A statement with other Lines. -/
def mvS (ln : Int) (i : Nat) : SS → SS
  | ⟨a0, _, a2, a3, a4, n, x, y, t, e⟩ => ⟨a0, ln + i, a2, a3, a4, n, x, y, mvSs ln 0 t, mvSs ln 0 e⟩
def mvSs (ln : Int) (i : Nat) : List SS → List SS
  | [] => []
  | s :: l => mvS ln i s :: mvSs ln (i + 1) l
end
mutual
theorem mvS_same (ln : Int) : ∀ (s : SS) (i : Nat), sameS s (mvS ln i s) = true
  | ⟨a0, a1, a2, a3, a4, n, x, y, t, e⟩, i => by
    rw [mvS, sameS, mvSs_same ln t 0, mvSs_same ln e 0, eqT_refl, eqE_refl, eqE_refl]; simp
theorem mvSs_same (ln : Int) : ∀ (l : List SS) (i : Nat), sameSs l (mvSs ln i l) = true
  | [], _ => rfl
  | s :: l, i => by rw [mvSs, sameSs, mvS_same ln s i, mvSs_same ln l (i + 1)]; rfl
end
mutual
theorem mvS_lined (ln : Int) (h : 0 ≤ ln) : ∀ (s : SS) (i : Nat), linedS (mvS ln i s) = true
  | ⟨a0, a1, a2, a3, a4, n, x, y, t, e⟩, i => by
    rw [mvS, linedS, mvSs_lined ln h t 0, mvSs_lined ln h e 0]; simp; omega
theorem mvSs_lined (ln : Int) (h : 0 ≤ ln) : ∀ (l : List SS) (i : Nat), linedSs (mvSs ln i l) = true
  | [], _ => rfl
  | s :: l, i => by rw [mvSs, linedSs, mvS_lined ln h s i, mvSs_lined ln h l (i + 1)]; rfl
end
theorem sameS_refl (s : SS) : sameS s s = true := by
  have : ∀ D (s : SS), deepS s ≤ D → sameS s s = true := by
    intro D
    induction D with
    | zero => intro s h; obtain ⟨_, _, _, _, _, _, _, _, _, _⟩ := s; rw [deepS] at h; omega
    | succ D ih =>
      intro s h
      have hk := deepS_kids s
      rw [sameS_eq, eqT_refl, eqE_refl, eqE_refl, eqL_refl s.f8 (fun x hx => ih x (by have := deep_mem_S hx; omega)), eqL_refl s.f9 (fun x hx => ih x (by have := deep_mem_S hx; omega))]
      simp
  exact this _ s (Nat.le_refl _)
theorem eqS_refl (l : List SS) : eqL sameS l l = true := eqL_refl l (fun x _ => sameS_refl x)
theorem mvSs_length (ln : Int) : ∀ (l : List SS) (i : Nat), (mvSs ln i l).length = l.length
  | [], _ => rfl
  | s :: l, i => by rw [mvSs, List.length_cons, List.length_cons, mvSs_length ln l (i + 1)]
theorem mvSs_get (ln : Int) : ∀ (l : List SS) (i j : Nat) (h : j < l.length) (h' : j < (mvSs ln i l).length), (mvSs ln i l)[j] = mvS ln (i + j) l[j]
  | s :: l, i, 0, h, h' => by simp [mvSs]
  | s :: l, i, j + 1, h, h' => by
    simp only [mvSs, List.getElem_cons_succ]
    rw [mvSs_get ln l (i + 1) j (by simpa using h) (by simpa [mvSs] using h'), show i + 1 + j = i + (j + 1) by omega]
/-- What lies in the row when i of its elements are done. -/
def half {α : Type} (m l : List α) (i : Nat) : List α := m.take i ++ l.drop i
theorem half_zero {α : Type} (m l : List α) : half m l 0 = l := by simp [half]
theorem half_end {α : Type} (m l : List α) (h : m.length = l.length) (i : Nat) (hi : i = l.length) : half m l i = m := by subst hi; simp [half, List.take_of_length_le (Nat.le_of_eq h)]
theorem half_length {α : Type} (m l : List α) (h : m.length = l.length) (i : Nat) (hi : i ≤ l.length) : (half m l i).length = l.length := by simp [half]; omega
theorem half_get {α : Type} (m l : List α) (h : m.length = l.length) (i : Nat) (hi : i < l.length) (z : α) : (half m l i).getD i z = l[i] := by
  unfold half
  rw [List.getD_eq_getElem?_getD, List.getElem?_append_right (by simp; omega)]
  simp [Nat.min_eq_left (show i ≤ m.length by omega), List.getElem?_eq_getElem hi]
theorem half_set {α : Type} (m l : List α) (h : m.length = l.length) (i : Nat) (hi : i < l.length) (x : α) (hx : m[i] = x) : (half m l i).set i x = half m l (i + 1) := by
  subst hx
  apply List.ext_getElem?
  intro j
  unfold half
  rw [List.getElem?_set]
  simp only [List.length_append, List.length_take, List.length_drop]
  by_cases hij : i = j
  · subst hij
    rw [if_pos rfl, if_pos (by omega), List.getElem?_append_left (by simp; omega), List.getElem?_take_of_lt (by omega), List.getElem?_eq_getElem]
  · rw [if_neg hij]
    by_cases hlt : j < i
    · rw [List.getElem?_append_left (by simp; omega), List.getElem?_append_left (by simp; omega), List.getElem?_take_of_lt hlt, List.getElem?_take_of_lt (by omega)]
    · rw [List.getElem?_append_right (by simp; omega), List.getElem?_append_right (by simp; omega), List.getElem?_drop, List.getElem?_drop]
      congr 1
      simp only [List.length_take]
      omega
/-- A function with other Lines. -/
def mvD (ln : Int) (d : SD) : SD := ⟨d.f0, d.f1, d.f2, d.f3, d.f4, mvSs ln 0 d.f5, ln⟩
theorem mvD_same (ln : Int) (d : SD) : sameD d (mvD ln d) = true := by
  rw [sameD_eq]; show (_ && (_ && (_ && (_ && (_ && eqL sameS d.f5 (mvSs ln 0 d.f5)))))) = true
  rw [← sameSs_eqL, mvSs_same]; simp [mvD, eqQ_refl]
theorem eqD_mv (ln : Int) : ∀ l : List SD, eqL sameD l (l.map (mvD ln)) = true
  | [] => rfl
  | d :: l => by rw [List.map_cons, eqL, mvD_same, eqD_mv ln l]; rfl
theorem sameP_refl (p : SP) : sameP p p = true := by
  rw [sameP_eq, eqL_refl p.f1 (fun x _ => by rw [sameG_eq, eqN_refl]; simp), eqL_refl p.f2 (fun x _ => by rw [sameT_eq]; simp), eqL_refl p.f3 (fun x _ => by rw [sameD_eq, eqQ_refl, eqS_refl]; simp)]; simp
def mvP (ln : Int) (p : SP) : SP := ⟨p.f0, p.f1, p.f2, p.f3.map (mvD ln)⟩
theorem mvP_same (ln : Int) (p : SP) : sameP p (mvP ln p) = true := by
  rw [sameP_eq]; show (_ && (_ && (_ && eqL sameD p.f3 (p.f3.map (mvD ln))))) = true
  rw [eqD_mv]
  show (p.f0 == p.f0 && (eqL sameG p.f1 p.f1 && (eqL sameT p.f2 p.f2 && true))) = true
  rw [eqL_refl p.f1 (fun x _ => by rw [sameG_eq, eqN_refl]; simp), eqL_refl p.f2 (fun x _ => by rw [sameT_eq]; simp)]; simp
theorem stmtB_line {s : SS} (h : stmtB s = true) : decide (0 ≤ s.f1) = true := by
  unfold stmtB at h
  by_cases h0 : s.f1 < 0
  · rw [if_pos h0] at h; cases h
  · exact decide_eq_true (by omega)
mutual
theorem right_lined : ∀ s : SS, rightS exprB stmtB s = true → linedS s = true
  | ⟨a0, a1, a2, a3, a4, n, x, y, t, e⟩, h => by
    rw [rightS] at h
    simp only [Bool.and_eq_true] at h
    rw [linedS, right_linedS t h.2.1.2, right_linedS e h.2.2]
    have := stmtB_line h.1
    simpa using this
theorem right_linedS : ∀ l : List SS, rightSs exprB stmtB l = true → linedSs l = true
  | [], _ => rfl
  | s :: l, h => by
    rw [rightSs, Bool.and_eq_true] at h
    rw [linedSs, right_lined s h.1, right_linedS l h.2]; rfl
end
theorem rightSs_all : ∀ l : List SS, (∀ s ∈ l, rightN (.st s) = true) → rightSs exprB stmtB l = true
  | [], _ => rfl
  | s :: l, h => by rw [rightSs, rightSs_all l (fun x hx => h x (List.mem_cons_of_mem _ hx))]; rw [show rightS exprB stmtB s = true from h s (List.mem_cons_self ..)]; rfl
theorem long_no {l : List Nd} : ∀ {c : Nat}, tooLong c l = false → ∀ x ∈ l, x.deep ≤ 60 := by
  induction l with
  | nil => intro c _ x hx; cases hx
  | cons y l ih =>
    intro c h x hx
    rw [tooLong] at h
    simp only [Bool.or_eq_false_iff, decide_eq_false_iff_not] at h
    rcases List.mem_cons.1 hx with rfl | hx
    · omega
    · exact ih h.2 x hx
theorem long_of {l : List Nd} : ∀ {c : Nat}, (∀ x ∈ l, x.deep ≤ 60) → c + sizes l ≤ 4000 → tooLong c l = false := by
  induction l with
  | nil => intro c _ _; rfl
  | cons y l ih =>
    intro c h hs
    have hc : sizes (y :: l) = y.size + sizes l := rfl
    rw [tooLong, ih (fun x hx => h x (List.mem_cons_of_mem _ hx)) (by omega)]
    have := h y (List.mem_cons_self ..)
    simp only [Bool.or_false, Bool.or_eq_false_iff, decide_eq_false_iff_not]
    omega
theorem checkN_of {l : List Nd} (h1 : ∀ x ∈ l, x.deep ≤ 60) (h2 : sizes l ≤ 4000) (h3 : l.all rightN = true) : checkN l = 0 := by
  unfold checkN; rw [long_of h1 (by omega), h3]; rfl
theorem checkN_no {l : List Nd} (h : checkN l = 0) : (∀ x ∈ l, x.deep ≤ 60) ∧ ∀ x ∈ l, rightN x = true := by
  unfold checkN at h
  cases h1 : tooLong 0 l
  · rw [h1] at h
    cases h2 : l.all rightN
    · rw [h2] at h; simp at h
    · exact ⟨long_no h1, fun x hx => List.all_eq_true.1 h2 x hx⟩
  · rw [h1] at h; simp at h
/-- Expressions that may be, and are few. -/
def GoodE (l : List SE) : Prop := rightEs exprB l = true ∧ deepEs l ≤ 60 ∧ sizeEs l ≤ 4000 ∧ ∀ e ∈ l, AllN szN (.ex e)
theorem goodE_elem : ∀ {l : List SE} {e : SE}, GoodE l → e ∈ l → rightE exprB e = true ∧ deepE e ≤ 60 ∧ sizeE e ≤ 4000 ∧ AllN szN (.ex e) := by
  intro l e h he
  refine ⟨?_, ?_, ?_, h.2.2.2 e he⟩
  · have := h.1
    clear h
    induction l with
    | nil => cases he
    | cons x l ih =>
      rw [rightEs, Bool.and_eq_true] at this
      rcases List.mem_cons.1 he with rfl | he
      · exact this.1
      · exact ih he this.2
  · have := deep_mem_E he; have := h.2.1; omega
  · have := size_mem_E he; have := h.2.2.1; omega
theorem goodE_kids {e : SE} (h : rightE exprB e = true ∧ deepE e ≤ 60 ∧ sizeE e ≤ 4000 ∧ AllN szN (.ex e)) : GoodE e.f5 ∧ deepEs e.f5 < deepE e := by
  obtain ⟨a, b, c, d, s, l⟩ := e
  obtain ⟨h1, h2, h3, h4⟩ := h
  rw [rightE, Bool.and_eq_true] at h1
  rw [deepE] at h2
  rw [sizeE] at h3
  exact ⟨⟨h1.2, by simp only []; omega, by simp only []; omega, fun x hx => h4.kid (y := .ex x) (List.mem_map.2 ⟨x, hx, rfl⟩)⟩, by rw [deepE]; simp only []; omega⟩
theorem goodE_check {e : SE} (h : rightE exprB e = true ∧ deepE e ≤ 60 ∧ sizeE e ≤ 4000 ∧ AllN szN (.ex e)) : checkN [.ex e] = 0 ∧ fitB (.ex e) = true :=
  ⟨checkN_of (fun x hx => by rw [List.mem_singleton.1 hx]; exact h.2.1) (by show sizeE e + 0 ≤ 4000; have := h.2.2.1; omega) (by simp only [List.all_cons, List.all_nil, Bool.and_true]; exact h.1), fit_of (show sizeE e < _ by have := h.2.2.1; omega) (show deepE e < _ by have := h.2.1; omega) h.2.2.2⟩
def GoodS (l : List SS) : Prop := rightSs exprB stmtB l = true ∧ deepSs l ≤ 60 ∧ sizeSs l ≤ 4000 ∧ ∀ s ∈ l, okS' s
def Good1 (s : SS) : Prop := rightS exprB stmtB s = true ∧ deepS s ≤ 60 ∧ sizeS s ≤ 4000 ∧ okS' s
theorem size_mem_S {l : List SS} {s : SS} (h : s ∈ l) : sizeS s ≤ sizeSs l := by
  induction l with
  | nil => cases h
  | cons x l ih =>
    rw [sizeSs]
    rcases List.mem_cons.1 h with rfl | h
    · omega
    · have := ih h; omega
theorem goodS_elem {l : List SS} {s : SS} (h : GoodS l) (he : s ∈ l) : Good1 s := by
  refine ⟨?_, ?_, ?_, h.2.2.2 s he⟩
  · have := h.1
    clear h
    induction l with
    | nil => cases he
    | cons x l ih =>
      rw [rightSs, Bool.and_eq_true] at this
      rcases List.mem_cons.1 he with rfl | he
      · exact this.1
      · exact ih he this.2
  · have := deep_mem_S he; have := h.2.1; omega
  · have := size_mem_S he; have := h.2.2.1; omega
theorem goodS_kids {s : SS} (h : Good1 s) : GoodE s.f6 ∧ GoodE s.f7 ∧ GoodS s.f8 ∧ GoodS s.f9 := by
  obtain ⟨k1, k2, k3, k4, k5, k6⟩ := okS'_parts h.2.2.2
  obtain ⟨h1, h2, h3, _⟩ := h
  obtain ⟨a0, a1, a2, a3, a4, n, x, y, t, e⟩ := s
  rw [rightS] at h1
  simp only [Bool.and_eq_true] at h1
  rw [deepS] at h2
  rw [sizeS] at h3
  exact ⟨⟨h1.2.1.1.1, by simp only []; omega, by simp only []; omega, k3⟩, ⟨h1.2.1.1.2, by simp only []; omega, by simp only []; omega, k4⟩, ⟨h1.2.1.2, by simp only []; omega, by simp only []; omega, k5⟩, ⟨h1.2.2, by simp only []; omega, by simp only []; omega, k6⟩⟩
theorem goodS_check {s : SS} (h : Good1 s) : checkN [.st s] = 0 ∧ fitB (.st s) = true :=
  ⟨checkN_of (fun x hx => by rw [List.mem_singleton.1 hx]; exact h.2.1) (by show sizeS s + 0 ≤ 4000; have := h.2.2.1; omega) (by simp only [List.all_cons, List.all_nil, Bool.and_true]; exact h.1), fit_of (show sizeS s < _ by have := h.2.2.1; omega) (show deepS s < _ by have := h.2.1; omega) h.2.2.2.1⟩
theorem checkP_no {p : SP} (h : checkP p = 0) : checkN (nodes p.f3) = 0 ∧ p.f1.all globB = true ∧ p.f2.all gateB = true ∧ p.f3.all declB = true := by
  unfold checkP checkV at h
  by_cases h1 : checkN (nodes p.f3) = 0
  · rw [h1] at h
    cases a : p.f1.all globB <;> cases b : p.f2.all gateB <;> cases c : p.f3.all declB <;> rw [a, b, c] at h <;> simp at h <;> (try exact ⟨h1, rfl, rfl, rfl⟩) <;> (split at h <;> (try cases h) <;> split at h <;> cases h)
  · exfalso
    have : (checkN (nodes p.f3) != 0) = true := by simpa using h1
    rw [this] at h
    simp only [if_true] at h
    split at h <;> cases h
theorem mem_bodies {l : List SD} {d : SD} (h : d ∈ l) {s : SS} (hs : s ∈ d.f5) : Nd.st s ∈ nodes l := List.mem_map.2 ⟨s, List.mem_flatMap.2 ⟨d, h, hs⟩, rfl⟩
theorem deepSs_le {n : Nat} : ∀ l : List SS, (∀ s ∈ l, deepS s ≤ n) → deepSs l ≤ n
  | [], _ => by rw [deepSs]; omega
  | s :: l, h => by rw [deepSs]; have := h s (List.mem_cons_self ..); have := deepSs_le l (fun x hx => h x (List.mem_cons_of_mem _ hx)); omega
/-- What the check of a program says of one of its functions. -/
theorem parts_decl {p : SP} (hw : wellP p) (hs : sizeDs p.f3 ≤ 300) (h : checkP p = 0) {d : SD} (hd : d ∈ p.f3) : GoodS d.f5 ∧ checkP ⟨1, [], [], [d]⟩ = 0 ∧ fitP ⟨1, [], [], [d]⟩ = true := by
  obtain ⟨h1, _, _, h4⟩ := checkP_no h
  obtain ⟨q1, q2⟩ := checkN_no h1
  have hz : sizeSs d.f5 ≤ 300 := by have := sizeDs_mem hd; omega
  have hn : nodes [d] = d.f5.map .st := by unfold nodes bodies; simp
  have e1 : ∀ x ∈ nodes [d], x.deep ≤ 60 := fun x hx => by rw [hn] at hx; obtain ⟨s, hs, rfl⟩ := List.mem_map.1 hx; exact q1 _ (mem_bodies hd hs)
  have e2 : (nodes [d]).all rightN = true := List.all_eq_true.2 fun x hx => by rw [hn] at hx; obtain ⟨s, hs, rfl⟩ := List.mem_map.1 hx; exact q2 _ (mem_bodies hd hs)
  have e3 : sizes (nodes [d]) ≤ 4000 := by rw [sizes_nodes]; show sizeSs d.f5 + 0 ≤ 4000; omega
  refine ⟨⟨rightSs_all _ (fun s hs => q2 _ (mem_bodies hd hs)), deepSs_le _ (fun s hs => q1 _ (mem_bodies hd hs)), by omega, fun s hs => (hw.2.2.1 d hd).2.2.2.2 s hs⟩, ?_, ?_⟩
  · unfold checkP
    rw [show checkN (nodes [d]) = 0 from checkN_of e1 e3 e2]
    simp only [List.all_nil, List.all_cons, Bool.and_true, List.all_eq_true.1 h4 d hd]
    rfl
  · refine fit_light (⟨1, [], [], [d]⟩ : SP) ⟨fun g hg => (List.not_mem_nil hg).elim, fun g hg => (List.not_mem_nil hg).elim, fun x hx => by rw [List.mem_singleton.1 hx]; exact hw.2.2.1 d hd, by simp, by simp, by simp⟩ ?_
    show sizeSs d.f5 + 0 ≤ 4000
    omega
theorem check_lined {p : SP} (h : checkP p = 0) : linedP p = true := by
  obtain ⟨h1, h2, h3, h4⟩ := checkP_no h
  obtain ⟨_, q2⟩ := checkN_no h1
  unfold linedP
  rw [Bool.and_eq_true, Bool.and_eq_true]
  refine ⟨List.all_eq_true.2 fun g hg => ?_, List.all_eq_true.2 fun g hg => ?_, List.all_eq_true.2 fun d hd => ?_⟩
  · have := List.all_eq_true.1 h2 g hg
    unfold globB at this
    simp only [Bool.and_eq_true] at this
    exact this.2.2.2.2.2
  · have := List.all_eq_true.1 h3 g hg
    unfold gateB at this
    split at this
    · cases this
    · split at this
      · cases this
      · exact this
  · rw [Bool.and_eq_true]
    refine ⟨?_, right_linedS _ (rightSs_all _ (fun s hs => q2 _ (mem_bodies hd hs)))⟩
    have := List.all_eq_true.1 h4 d hd
    unfold declB declV at this
    by_cases h0 : d.f6 < 0
    · rw [if_pos (decide_eq_true h0)] at this; cases this
    · exact decide_eq_true (by omega)
theorem mvP_lined {p : SP} (h : linedP p = true) (ln : Int) (hl : 0 ≤ ln) : linedP (mvP ln p) = true := by
  unfold linedP at h ⊢
  rw [Bool.and_eq_true, Bool.and_eq_true] at h ⊢
  refine ⟨h.1, h.2.1, List.all_eq_true.2 fun d hd => ?_⟩
  obtain ⟨x, _, rfl⟩ := List.mem_map.1 hd
  rw [Bool.and_eq_true]
  exact ⟨decide_eq_true hl, mvSs_lined ln hl _ 0⟩
/-- With other Lines: the same, and valid. -/
theorem parts_moved {p : SP} (h : checkP p = 0) (ln : Int) (hl : 0 ≤ ln) : sameP p (mvP ln p) = true ∧ checkP (mvP ln p) = 0 := by
  have hs := mvP_same ln p
  have hp := check_lined h
  exact ⟨hs, ((sames_law p (mvP ln p) hs).2.2 hp (mvP_lined hp ln hl)).symm.trans h⟩
theorem sizeDs_succ {l : List SD} {i : Nat} (hi : i < l.length) : sizeDs (l.take (i + 1)) = sizeDs (l.take i) + sizes (nodes [l[i]]) := by
  rw [← sizes_nodes, ← sizes_nodes]
  unfold nodes
  rw [bodies_succ hi, List.map_append, sizes_append]
  congr 2
  unfold bodies
  simp
theorem deepDs_succ {l : List SD} {i : Nat} (hi : i < l.length) : deeps (nodes (l.take (i + 1))) = max (deeps (nodes (l.take i))) (deeps (nodes [l[i]])) := by
  unfold nodes
  rw [bodies_succ hi, List.map_append, deeps_append]
  congr 2
  unfold bodies
  simp
theorem sizeDs_take (l : List SD) (i : Nat) : sizeDs (l.take i) ≤ sizeDs l := by
  induction l generalizing i with
  | nil => simp
  | cons d l ih =>
    cases i with
    | zero => simp [sizeDs]
    | succ i => rw [List.take_succ_cons, sizeDs, sizeDs]; have := ih i; omega
mutual
theorem okS_mv (ln : Int) : ∀ (s : SS) (i : Nat), okS (mvS ln i s) = okS s
  | ⟨a0, a1, a2, a3, a4, n, x, y, t, e⟩, i => by rw [mvS, okS, okS, okSs_mv ln t 0, okSs_mv ln e 0]
theorem okSs_mv (ln : Int) : ∀ (l : List SS) (i : Nat), okSs (mvSs ln i l) = okSs l
  | [], _ => rfl
  | s :: l, i => by rw [mvSs, okSs, okSs, okS_mv ln s i, okSs_mv ln l (i + 1)]
end
theorem mvSs_mem (ln : Int) : ∀ (l : List SS) (i : Nat) (x : SS), x ∈ mvSs ln i l → ∃ s ∈ l, ∃ j, x = mvS ln j s
  | [], _, _, h => by cases h
  | s :: l, i, x, h => by
    rw [mvSs] at h
    rcases List.mem_cons.1 h with rfl | h
    · exact ⟨s, List.mem_cons_self .., i, rfl⟩
    · obtain ⟨s', hs, j, rfl⟩ := mvSs_mem ln l (i + 1) x h
      exact ⟨s', List.mem_cons_of_mem _ hs, j, rfl⟩
theorem bodies_mv (ln : Int) : ∀ l : List SD, (bodies (l.map (mvD ln))).length = (bodies l).length
  | [] => rfl
  | d :: l => by
    have h1 : bodies ((d :: l).map (mvD ln)) = mvSs ln 0 d.f5 ++ bodies (l.map (mvD ln)) := by unfold bodies; rw [List.map_cons, List.flatMap_cons]; rfl
    have h2 : bodies (d :: l) = d.f5 ++ bodies l := by unfold bodies; rw [List.flatMap_cons]
    rw [h1, h2, List.length_append, List.length_append, mvSs_length, bodies_mv ln l]
/-- With other Lines it fits as before. -/
theorem fit_moved {p : SP} (h : fitP p = true) (ln : Int) : fitP (mvP ln p) = true := by
  obtain ⟨h1, h2, h3, h4, h5, h6⟩ := fitP_parts h
  have hs := (sames_law p (mvP ln p) (mvP_same ln p)).1
  unfold fitP
  simp only [Bool.and_eq_true, decide_eq_true_eq, List.all_eq_true]
  refine ⟨by show (bodies (p.f3.map (mvD ln))).length * 16 ≤ _; rw [bodies_mv]; exact h1, by rw [← hs]; exact h2, fun x hx => ?_, fun g hg => decide_eq_true (h4 g hg), fun g hg => decide_eq_true (h5 g hg), fun d hd => ?_⟩
  · obtain ⟨d', hd', s, hs', rfl⟩ := mem_nodes hx
    obtain ⟨d, hd, rfl⟩ := List.mem_map.1 hd'
    obtain ⟨s0, hs0, j, rfl⟩ := mvSs_mem ln d.f5 0 s hs'
    obtain ⟨q1, q2, q3⟩ := fit_parts (h3 _ (mem_bodies hd hs0))
    have ha := alike_of (mvS_same ln s0 j)
    exact fit_of (by show sizeS (mvS ln j s0) < _; rw [← ha.1]; exact q1) (by show deepS (mvS ln j s0) < _; rw [← ha.2.1]; exact q2) (ok_allS _ (by rw [okS_mv]; exact all_okS _ q3))
  · obtain ⟨d0, hd0, rfl⟩ := List.mem_map.1 hd
    exact ⟨decide_eq_true (h6 d0 hd0).1, fun q hq => decide_eq_true ((h6 d0 hd0).2 q hq)⟩
end Go.Proofs.YtgkhpecllhiidaaDoor.A
