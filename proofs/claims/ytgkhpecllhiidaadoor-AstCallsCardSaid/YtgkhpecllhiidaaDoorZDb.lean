/- Plain laws of the reference of chapter 6: sizes, depths and names. -/
import Derived.Test.YtgkhpecllhiidaaDoorZCq
import Derived.Test.YtgkhpecllhiidaaDoorZDa
set_option linter.unusedVariables false
set_option linter.unusedSimpArgs false
namespace Go.Proofs.YtgkhpecllhiidaaDoor.A
open Go.RowKit Go.Shelf Go.Proofs.YtgkhpecllhiidaaDoor.As Go.Proofs.YtgkhpecllhiidaaDoorW.PrintWords Go.Proofs.YtgkhpecllhiidaaDoorW.PrintLast Go.Proofs.YtgkhpecllhiidaaDoorW.PrintMore
theorem mx_nat (a b : Nat) : mx (a : Int) (b : Int) = ((max a b : Nat) : Int) := by unfold mx; omega
theorem w_ix (i : Nat) (h : i < 9223372036854775807) : wrap64 ((i : Int) + 1) = ((i + 1 : Nat) : Int) := by rw [w64i _ (by omega)]; rfl
theorem w_add (x s : Nat) (h : x + s < 9223372036854775807) : wrap64 ((x : Int) + (s : Int)) = ((x + s : Nat) : Int) := by rw [w64i _ (by omega)]; rfl
theorem w_one (s : Nat) (h : s < 9223372036854775806) : wrap64 (1 + (s : Int)) = ((1 + s : Nat) : Int) := by rw [w64i _ (by omega)]; rfl
theorem sum_a (x s r z : Nat) (h : z = 1 + s) : x + 1 + s + r = x + (z + r) := by omega
theorem max_a (y d r z : Nat) (h : z = 1 + d) : max (max y (d + 1)) r = max y (max z r) := by omega
theorem refSizes_loop (D : Nat) (ih : ∀ l : List SE, deepEs l ≤ D → sizeEs l < 4611686018427387904 → ∃ k, lamplighterref06_sizes.f k l = some ((sizeEs l : Int), (deepEs l : Int))) (l : List SE) (hD : deepEs l ≤ D + 1) (hl : l.length < 4611686018427387904) :
    ∀ (n i x y : Nat), l.length - i ≤ n → i ≤ l.length → x + sizeEs (l.drop i) < 4611686018427387904 → y < 4611686018427387904 → ∃ k, lamplighterref06_sizes.l0 k l (x : Int) (y : Int) (i : Int) = some (((x + sizeEs (l.drop i) : Nat) : Int), ((max y (deepEs (l.drop i)) : Nat) : Int)) := by
  intro n
  induction n with
  | zero =>
    intro i x y hn hi h1 h2
    obtain rfl : i = l.length := by omega
    exact ⟨1, by rw [lamplighterref06_sizes.l0, if_neg (by omega), List.drop_length, sizeEs, deepEs]; simp⟩
  | succ n hn =>
    intro i x y hni hi h1 h2
    by_cases hlt : i < l.length
    · rw [List.drop_eq_getElem_cons hlt, sizeEs] at h1
      rw [List.drop_eq_getElem_cons hlt, sizeEs, deepEs]
      have hd := deep_mem_E (List.getElem_mem hlt)
      have hrd := rd_nat l i hlt
      generalize l[i] = e at *
      have e1 : sizeE e = 1 + sizeEs e.f5 := by obtain ⟨_, _, _, _, _, q⟩ := e; rw [sizeE]
      have e2 : deepE e = 1 + deepEs e.f5 := by obtain ⟨_, _, _, _, _, q⟩ := e; rw [deepE]
      have e3 := deep_le_Es e.f5
      obtain ⟨ka, ha⟩ := ih e.f5 (by omega) (by omega)
      obtain ⟨kb, hb⟩ := hn (i + 1) (x + 1 + sizeEs e.f5) (max y (deepEs e.f5 + 1)) (by omega) hlt (by omega) (by omega)
      have ha' := le_up (F := fun k => lamplighterref06_sizes.f k e.f5) (fun k => (lamplighterref06_sizes.mono_l k).1 _) (Nat.le_max_left ka kb) ha
      have hb' := le_up (F := fun k => lamplighterref06_sizes.l0 k l ((x + 1 + sizeEs e.f5 : Nat) : Int) ((max y (deepEs e.f5 + 1) : Nat) : Int) ((i + 1 : Nat) : Int)) (fun k => (lamplighterref06_sizes.mono_l k).2 _ _ _ _) (Nat.le_max_right ka kb) hb
      refine ⟨max ka kb + 1, ?_⟩
      rw [lamplighterref06_sizes.l0, if_pos (by omega), if_pos (by omega), hrd]
      rw [show lamplighterref06_sizes.f (max ka kb) e.f5 = _ from ha', Option.bind_some]
      simp only
      rw [w_ix x (by omega), w_add (x + 1) (sizeEs e.f5) (by omega), w_ix (deepEs e.f5) (by omega), mx_nat, w_ix i (by omega)]
      rw [show lamplighterref06_sizes.l0 (max ka kb) l _ _ _ = _ from hb']
      rw [show x + 1 + sizeEs e.f5 + sizeEs (l.drop (i + 1)) = x + (sizeE e + sizeEs (l.drop (i + 1))) from sum_a _ _ _ _ e1, show max (max y (deepEs e.f5 + 1)) (deepEs (l.drop (i + 1))) = max y (max (deepE e) (deepEs (l.drop (i + 1)))) from max_a _ _ _ _ e2]
    · obtain rfl : i = l.length := by omega
      exact ⟨1, by rw [lamplighterref06_sizes.l0, if_neg (by omega), List.drop_length, sizeEs, deepEs]; simp⟩
theorem refSizes_f : ∀ (D : Nat) (l : List SE), deepEs l ≤ D → sizeEs l < 4611686018427387904 → ∃ k, lamplighterref06_sizes.f k l = some ((sizeEs l : Int), (deepEs l : Int))
  | 0, l, hD, h1 => by
    cases l with
    | nil => exact ⟨2, by rw [lamplighterref06_sizes.f, lamplighterref06_sizes.l0, if_neg (by simp)]; rfl⟩
    | cons e l => rw [deepEs] at hD; obtain ⟨_, _, _, _, _, q⟩ := e; rw [deepE] at hD; omega
  | D + 1, l, hD, h1 => by
    obtain ⟨k, hk⟩ := refSizes_loop D (refSizes_f D) l hD (by have := len_le_sizeEs l; omega) l.length 0 0 0 (by omega) (by omega) (by rw [List.drop_zero]; omega) (by omega)
    rw [List.drop_zero, Nat.zero_add, Nat.zero_max] at hk
    exact ⟨k + 1, by rw [lamplighterref06_sizes.f]; exact hk⟩
theorem rd_natS (l : List SS) (i : Nat) (h : i < l.length) : rd_T38 l (i : Int) = l[i] := by
  unfold rd_T38; rw [Int.toNat_natCast, List.getD_eq_getElem?_getD, List.getElem?_eq_getElem h]; rfl
theorem refStmts_loop (D : Nat) (ih : ∀ l : List SS, deepSs l ≤ D → sizeSs l < 4611686018427387904 → ∃ k, lamplighterref06_stmts.f k l = some ((sizeSs l : Int), (deepSs l : Int))) (l : List SS) (hD : deepSs l ≤ D + 1) (hl : l.length < 4611686018427387904) :
    ∀ (n i x y : Nat), l.length - i ≤ n → i ≤ l.length → x + sizeSs (l.drop i) < 4611686018427387904 → y < 4611686018427387904 → ∃ k, lamplighterref06_stmts.l0 k l (x : Int) (y : Int) (i : Int) = some (((x + sizeSs (l.drop i) : Nat) : Int), ((max y (deepSs (l.drop i)) : Nat) : Int)) := by
  intro n
  induction n with
  | zero =>
    intro i x y hn hi h1 h2
    obtain rfl : i = l.length := by omega
    exact ⟨1, by rw [lamplighterref06_stmts.l0, if_neg (by omega), List.drop_length, sizeSs, deepSs]; simp⟩
  | succ n hn =>
    intro i x y hni hi h1 h2
    by_cases hlt : i < l.length
    · rw [List.drop_eq_getElem_cons hlt, sizeSs] at h1
      rw [List.drop_eq_getElem_cons hlt, sizeSs, deepSs]
      have hd := deep_mem_S (List.getElem_mem hlt)
      have hrd := rd_natS l i hlt
      generalize l[i] = e at *
      have e1 : sizeS e = 1 + (sizeEs e.f6 + sizeEs e.f7 + sizeSs e.f8 + sizeSs e.f9) := by obtain ⟨_, _, _, _, _, _, _, _, _, _⟩ := e; rw [sizeS]
      have e2 : deepS e = 1 + max (max (deepEs e.f6) (deepEs e.f7)) (max (deepSs e.f8) (deepSs e.f9)) := by obtain ⟨_, _, _, _, _, _, _, _, _, _⟩ := e; rw [deepS]
      have d6 := deep_le_Es e.f6
      have d7 := deep_le_Es e.f7
      have d8 := deep_le_Ss e.f8
      have d9 := deep_le_Ss e.f9
      obtain ⟨k6, h6⟩ := refSizes_f _ e.f6 (Nat.le_refl _) (by omega)
      obtain ⟨k7, h7⟩ := refSizes_f _ e.f7 (Nat.le_refl _) (by omega)
      obtain ⟨k8, h8⟩ := ih e.f8 (by omega) (by omega)
      obtain ⟨k9, h9⟩ := ih e.f9 (by omega) (by omega)
      obtain ⟨kb, hb⟩ := hn (i + 1) (x + sizeS e) (max y (deepS e)) (by omega) hlt (by omega) (by omega)
      obtain ⟨K, hK⟩ : ∃ K, K = max (max k6 k7) (max (max k8 k9) kb) := ⟨_, rfl⟩
      have g6 := le_up (F := fun k => lamplighterref06_sizes.f k e.f6) (fun k => (lamplighterref06_sizes.mono_l k).1 _) (show k6 ≤ K by omega) h6
      have g7 := le_up (F := fun k => lamplighterref06_sizes.f k e.f7) (fun k => (lamplighterref06_sizes.mono_l k).1 _) (show k7 ≤ K by omega) h7
      have g8 := le_up (F := fun k => lamplighterref06_stmts.f k e.f8) (fun k => (lamplighterref06_stmts.mono_l k).1 _) (show k8 ≤ K by omega) h8
      have g9 := le_up (F := fun k => lamplighterref06_stmts.f k e.f9) (fun k => (lamplighterref06_stmts.mono_l k).1 _) (show k9 ≤ K by omega) h9
      have gb := le_up (F := fun k => lamplighterref06_stmts.l0 k l ((x + sizeS e : Nat) : Int) ((max y (deepS e) : Nat) : Int) ((i + 1 : Nat) : Int)) (fun k => (lamplighterref06_stmts.mono_l k).2 _ _ _ _) (show kb ≤ K by omega) hb
      clear ih hn h6 h7 h8 h9 hb hK hD
      refine ⟨K + 1, ?_⟩
      rw [lamplighterref06_stmts.l0, if_pos (by omega), if_pos (by omega), hrd]
      rw [show lamplighterref06_sizes.f K e.f6 = _ from g6, Option.bind_some, show lamplighterref06_sizes.f K e.f7 = _ from g7, Option.bind_some, show lamplighterref06_stmts.f K e.f8 = _ from g8, Option.bind_some, show lamplighterref06_stmts.f K e.f9 = _ from g9, Option.bind_some]
      simp only
      rw [w_ix x (by omega), w_add (x + 1) (sizeEs e.f6) (by omega), w_add (x + 1 + sizeEs e.f6) (sizeEs e.f7) (by omega), w_add (x + 1 + sizeEs e.f6 + sizeEs e.f7) (sizeSs e.f8) (by omega), w_add (x + 1 + sizeEs e.f6 + sizeEs e.f7 + sizeSs e.f8) (sizeSs e.f9) (by omega), mx_nat, mx_nat, mx_nat, w_one _ (by omega), mx_nat, w_ix i (by omega)]
      rw [show x + 1 + sizeEs e.f6 + sizeEs e.f7 + sizeSs e.f8 + sizeSs e.f9 = x + sizeS e by omega, show 1 + max (max (max (deepEs e.f6) (deepEs e.f7)) (deepSs e.f8)) (deepSs e.f9) = deepS e by omega]
      rw [show lamplighterref06_stmts.l0 K l _ _ _ = _ from gb]
      rw [Nat.add_assoc, Nat.max_assoc]
    · obtain rfl : i = l.length := by omega
      exact ⟨1, by rw [lamplighterref06_stmts.l0, if_neg (by omega), List.drop_length, sizeSs, deepSs]; simp⟩
theorem refStmts_f : ∀ (D : Nat) (l : List SS), deepSs l ≤ D → sizeSs l < 4611686018427387904 → ∃ k, lamplighterref06_stmts.f k l = some ((sizeSs l : Int), (deepSs l : Int))
  | 0, l, hD, h1 => by
    cases l with
    | nil => exact ⟨2, by rw [lamplighterref06_stmts.f, lamplighterref06_stmts.l0, if_neg (by simp)]; rfl⟩
    | cons e l => rw [deepSs] at hD; obtain ⟨_, _, _, _, _, _, _, _, _, q⟩ := e; rw [deepS] at hD; omega
  | D + 1, l, hD, h1 => by
    obtain ⟨k, hk⟩ := refStmts_loop D (refStmts_f D) l hD (by have := len_le_sizeSs l; omega) l.length 0 0 0 (by omega) (by omega) (by rw [List.drop_zero]; omega) (by omega)
    rw [List.drop_zero, Nat.zero_add, Nat.zero_max] at hk
    exact ⟨k + 1, by rw [lamplighterref06_stmts.f]; exact hk⟩
theorem refSizes (l : List SE) (A : Option Addr) (c : Nat) (w : World) (h : sizeEs l < 4611686018427387904) (hC : kE.C w A l.length l) (hc : l.length ≤ c) :
    Calls Tryd.prog 85 #[.slice A l.length c] w fun e w' => e = .returned (.tuple #[.int .i64 (sizeEs l), .int .i64 (deepEs l)]) ∧ Below w.heap.size w w' := by
  obtain ⟨k, hk⟩ := refSizes_f _ l (Nat.le_refl _) h
  exact lamplighterref06_sizes.calls k A c l _ _ w hC hc hk
theorem refStmts (l : List SS) (A : Option Addr) (c : Nat) (w : World) (h : sizeSs l < 4611686018427387904) (hC : kS.C w A l.length l) (hc : l.length ≤ c) :
    Calls Tryd.prog 87 #[.slice A l.length c] w fun e w' => e = .returned (.tuple #[.int .i64 (sizeSs l), .int .i64 (deepSs l)]) ∧ Below w.heap.size w w' := by
  obtain ⟨k, hk⟩ := refStmts_f _ l (Nat.le_refl _) h
  exact lamplighterref06_stmts.calls k A c l _ _ w hC hc hk
theorem refSize_loop (a : Int) (g : List SG) (q : List ST) (l : List SD) (hl : l.length ≤ 9223372036854775807) :
    ∀ (n i x : Nat), l.length - i ≤ n → i ≤ l.length → x + sizeDs (l.drop i) < 4611686018427387904 → ∃ k, lamplighterref06_Size.l0 k (x : Int) (i : Int) a g q l = some ((x + sizeDs (l.drop i) : Nat) : Int) := by
  intro n
  induction n with
  | zero =>
    intro i x hn hi h1
    obtain rfl : i = l.length := by omega
    exact ⟨1, by rw [lamplighterref06_Size.l0, if_neg (by omega), List.drop_length, sizeDs]; rfl⟩
  | succ n hn =>
    intro i x hni hi h1
    by_cases hlt : i < l.length
    · rw [List.drop_eq_getElem_cons hlt, sizeDs] at h1
      rw [List.drop_eq_getElem_cons hlt, sizeDs]
      have hrd := rdD_nat l i hlt
      generalize l[i] = d at *
      have d5 := deep_le_Ss d.f5
      obtain ⟨ka, ha⟩ := refStmts_f _ d.f5 (Nat.le_refl _) (by omega)
      obtain ⟨kb, hb⟩ := hn (i + 1) (x + sizeSs d.f5) (by omega) hlt (by omega)
      have ha' := le_up (F := fun k => lamplighterref06_stmts.f k d.f5) (fun k => (lamplighterref06_stmts.mono_l k).1 _) (Nat.le_max_left ka kb) ha
      have hb' := le_up (F := fun k => lamplighterref06_Size.l0 k ((x + sizeSs d.f5 : Nat) : Int) ((i + 1 : Nat) : Int) a g q l) (fun k => lamplighterref06_Size.mono_l k _ _ _ _ _ _) (Nat.le_max_right ka kb) hb
      refine ⟨max ka kb + 1, ?_⟩
      rw [lamplighterref06_Size.l0, if_pos (by omega), if_pos (by omega), hrd]
      rw [show lamplighterref06_stmts.f (max ka kb) d.f5 = _ from ha', Option.bind_some]
      simp only
      rw [w_add x (sizeSs d.f5) (by omega), w_ix i (by omega)]
      rw [show lamplighterref06_Size.l0 (max ka kb) _ _ a g q l = _ from hb']
      rw [Nat.add_assoc]
    · obtain rfl : i = l.length := by omega
      exact ⟨1, by rw [lamplighterref06_Size.l0, if_neg (by omega), List.drop_length, sizeDs]; rfl⟩
theorem deeps_nodes (d : SD) (l : List SD) : deeps (nodes (d :: l)) = max (deepSs d.f5) (deeps (nodes l)) := by
  have : nodes (d :: l) = d.f5.map .st ++ nodes l := by unfold nodes bodies; rw [List.flatMap_cons, List.map_append]
  rw [this, deeps_append, deeps_st]
theorem refDeep_loop (a : Int) (g : List SG) (q : List ST) (l : List SD) (hl : l.length ≤ 9223372036854775807) :
    ∀ (n i x : Nat), l.length - i ≤ n → i ≤ l.length → sizeDs (l.drop i) < 4611686018427387904 → ∃ k, lamplighterref06_Deep.l0 k (x : Int) (i : Int) a g q l = some ((max x (deeps (nodes (l.drop i))) : Nat) : Int) := by
  intro n
  induction n with
  | zero =>
    intro i x hn hi h1
    obtain rfl : i = l.length := by omega
    exact ⟨1, by rw [lamplighterref06_Deep.l0, if_neg (by omega), List.drop_length, show deeps (nodes []) = 0 from rfl, Nat.max_zero]⟩
  | succ n hn =>
    intro i x hni hi h1
    by_cases hlt : i < l.length
    · rw [List.drop_eq_getElem_cons hlt, sizeDs] at h1
      rw [List.drop_eq_getElem_cons hlt, deeps_nodes]
      have hrd := rdD_nat l i hlt
      generalize l[i] = d at *
      have d5 := deep_le_Ss d.f5
      obtain ⟨ka, ha⟩ := refStmts_f _ d.f5 (Nat.le_refl _) (by omega)
      obtain ⟨kb, hb⟩ := hn (i + 1) (max x (deepSs d.f5)) (by omega) hlt (by omega)
      have ha' := le_up (F := fun k => lamplighterref06_stmts.f k d.f5) (fun k => (lamplighterref06_stmts.mono_l k).1 _) (Nat.le_max_left ka kb) ha
      have hb' := le_up (F := fun k => lamplighterref06_Deep.l0 k ((max x (deepSs d.f5) : Nat) : Int) ((i + 1 : Nat) : Int) a g q l) (fun k => lamplighterref06_Deep.mono_l k _ _ _ _ _ _) (Nat.le_max_right ka kb) hb
      refine ⟨max ka kb + 1, ?_⟩
      rw [lamplighterref06_Deep.l0, if_pos (by omega), if_pos (by omega), hrd]
      rw [show lamplighterref06_stmts.f (max ka kb) d.f5 = _ from ha', Option.bind_some]
      simp only
      rw [mx_nat, w_ix i (by omega)]
      rw [show lamplighterref06_Deep.l0 (max ka kb) _ _ a g q l = _ from hb', Nat.max_assoc]
    · obtain rfl : i = l.length := by omega
      exact ⟨1, by rw [lamplighterref06_Deep.l0, if_neg (by omega), List.drop_length, show deeps (nodes []) = 0 from rfl, Nat.max_zero]⟩
theorem refSize (p : SP) (hz : sizes (nodes p.f3) < 4611686018427387904) (A1 A2 A3 : Option Addr) (c1 c2 c3 : Nat) (W : World) (hR : RowsP W p A1 A2 A3 c1 c2 c3) :
    Calls Tryd.prog 42 #[.agg #[.int .i64 p.f0, .slice A1 p.f1.length c1, .slice A2 p.f2.length c2, .slice A3 p.f3.length c3]] W fun r W' => r = .returned (.int .i64 (sizes (nodes p.f3))) ∧ Below W.heap.size W W' := by
  rw [sizes_nodes] at hz ⊢
  obtain ⟨k, hk⟩ := refSize_loop p.f0 p.f1 p.f2 p.f3 hR.2.2.1.2.1 p.f3.length 0 0 (by omega) (by omega) (by rw [List.drop_zero]; omega)
  rw [List.drop_zero, Nat.zero_add] at hk
  exact lamplighterref06_Size.calls k p.f0 A1 c1 p.f1 A2 c2 p.f2 A3 c3 p.f3 _ W hR.1 hR.2.2.2.1 hR.2.1 hR.2.2.2.2.1 hR.2.2.1 hR.2.2.2.2.2 hk
theorem refDeep (p : SP) (hz : sizes (nodes p.f3) < 4611686018427387904) (A1 A2 A3 : Option Addr) (c1 c2 c3 : Nat) (W : World) (hR : RowsP W p A1 A2 A3 c1 c2 c3) :
    Calls Tryd.prog 43 #[.agg #[.int .i64 p.f0, .slice A1 p.f1.length c1, .slice A2 p.f2.length c2, .slice A3 p.f3.length c3]] W fun r W' => r = .returned (.int .i64 (deeps (nodes p.f3))) ∧ Below W.heap.size W W' := by
  rw [sizes_nodes] at hz
  obtain ⟨k, hk⟩ := refDeep_loop p.f0 p.f1 p.f2 p.f3 hR.2.2.1.2.1 p.f3.length 0 0 (by omega) (by omega) (by rw [List.drop_zero]; omega)
  rw [List.drop_zero, Nat.zero_max] at hk
  exact lamplighterref06_Deep.calls k p.f0 A1 c1 p.f1 A2 c2 p.f2 A3 c3 p.f3 _ W hR.1 hR.2.2.2.1 hR.2.1 hR.2.2.2.2.1 hR.2.2.1 hR.2.2.2.2.2 hk
theorem refNames_loop (D : Nat) (ih : ∀ e : SE, deepE e ≤ D → sizeE e < 8796093022208 → ∃ k, lamplighterref06_Names.f k e.f0 e.f1 e.f2 e.f3 e.f4 e.f5 = some (namesE e)) (a0 a1 a2 a3 : Int) (a4 : ByteArray) (l : List SE) (hD : deepEs l ≤ D) (hl : l.length < 8796093022208) :
    ∀ (n i : Nat) (acc : List ByteArray), l.length - i ≤ n → i ≤ l.length → acc.length + sizeEs (l.drop i) < 8796093022208 → ∃ k, lamplighterref06_Names.l0 k acc (i : Int) a0 a1 a2 a3 a4 l = some (acc ++ namesEs (l.drop i)) := by
  intro n
  induction n with
  | zero =>
    intro i acc hn hi h1
    obtain rfl : i = l.length := by omega
    exact ⟨1, by rw [lamplighterref06_Names.l0, if_neg (by omega), List.drop_length, namesEs, List.append_nil]⟩
  | succ n hn =>
    intro i acc hni hi h1
    by_cases hlt : i < l.length
    · rw [List.drop_eq_getElem_cons hlt, sizeEs] at h1
      rw [List.drop_eq_getElem_cons hlt, namesEs]
      have hd := deep_mem_E (List.getElem_mem hlt)
      have hrd := rd_nat l i hlt
      generalize l[i] = e at *
      have hln := namesE_len e
      obtain ⟨ka, ha⟩ := ih e (by omega) (by omega)
      obtain ⟨kb, hb⟩ := hn (i + 1) (acc ++ namesE e) (by omega) hlt (by rw [List.length_append]; omega)
      have ha' := le_up (F := fun k => lamplighterref06_Names.f k e.f0 e.f1 e.f2 e.f3 e.f4 e.f5) (fun k => (lamplighterref06_Names.mono_l k).1 _ _ _ _ _ _) (Nat.le_max_left ka kb) ha
      have hb' := le_up (F := fun k => lamplighterref06_Names.l0 k (acc ++ namesE e) ((i + 1 : Nat) : Int) a0 a1 a2 a3 a4 l) (fun k => (lamplighterref06_Names.mono_l k).2.2 _ _ _ _ _ _ _ _) (Nat.le_max_right ka kb) hb
      refine ⟨max ka kb + 1, ?_⟩
      rw [lamplighterref06_Names.l0, if_pos (by omega), if_pos (by omega), hrd]
      rw [show lamplighterref06_Names.f (max ka kb) e.f0 e.f1 e.f2 e.f3 e.f4 e.f5 = _ from ha', Option.bind_some, if_pos (by omega), w_ix i (by omega)]
      rw [show lamplighterref06_Names.l0 (max ka kb) _ _ a0 a1 a2 a3 a4 l = _ from hb', List.append_assoc]
    · obtain rfl : i = l.length := by omega
      exact ⟨1, by rw [lamplighterref06_Names.l0, if_neg (by omega), List.drop_length, namesEs, List.append_nil]⟩
theorem refNames_f : ∀ (D : Nat) (e : SE), deepE e ≤ D → sizeE e < 8796093022208 → ∃ k, lamplighterref06_Names.f k e.f0 e.f1 e.f2 e.f3 e.f4 e.f5 = some (namesE e)
  | 0, ⟨_, _, _, _, _, l⟩, h, _ => by rw [deepE] at h; omega
  | D + 1, ⟨a0, a1, a2, a3, a4, l⟩, h, hz => by
    rw [deepE] at h
    rw [sizeE] at hz
    have hl := len_le_sizeEs l
    by_cases h4 : a4.toList = ([] : List UInt8)
    · obtain ⟨k, hk⟩ := refNames_loop D (refNames_f D) a0 a1 a2 a3 a4 l (by omega) (by omega) l.length 0 [] (by omega) (by omega) (by rw [List.drop_zero, List.length_nil]; omega)
      refine ⟨k + 2, ?_⟩
      rw [lamplighterref06_Names.f, if_pos h4, lamplighterref06_Names.j0, namesE, if_pos h4]
      rw [List.drop_zero] at hk
      exact hk
    · obtain ⟨k, hk⟩ := refNames_loop D (refNames_f D) a0 a1 a2 a3 a4 l (by omega) (by omega) l.length 0 ([] ++ [a4]) (by omega) (by omega) (by rw [List.drop_zero]; simp only [List.nil_append, List.length_cons, List.length_nil]; omega)
      refine ⟨k + 2, ?_⟩
      rw [lamplighterref06_Names.f, if_neg h4, if_pos (by simp), lamplighterref06_Names.j0, namesE, if_neg h4]
      rw [List.drop_zero] at hk
      exact hk
theorem refNames (e : SE) (h : sizeE e < 8796093022208) (A5 : Option Addr) (c5 : Nat) (w : World) (hR : RowsE w e A5 c5) :
    Calls Tryd.prog 49 #[.agg #[.int .i64 e.f0, .int .i64 e.f1, .int .i64 e.f2, .int .u32 e.f3, .string e.f4, .slice A5 e.f5.length c5]] w fun r w' => ∃ v, r = .returned v ∧ Kd.string.R 9 w' w.heap.size (fun _ => True) v (namesE e) ∧ Below w.heap.size w w' := by
  obtain ⟨k, hk⟩ := refNames_f _ e (Nat.le_refl _) h
  exact lamplighterref06_Names.calls k e.f0 e.f1 e.f2 e.f3 e.f4 A5 c5 e.f5 _ w hR.1 hR.2 hk
end Go.Proofs.YtgkhpecllhiidaaDoor.A
