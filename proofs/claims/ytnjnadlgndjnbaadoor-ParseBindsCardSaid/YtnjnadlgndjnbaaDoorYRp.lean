/- What the rows of Parse give the walks: the four laid variables, the library's variable, and the wrap that hands on both. -/
import Derived.Test.YtnjnadlgndjnbaaDoorYKc
import Derived.Test.YtnjnadlgndjnbaaDoorRows
import Derived.ProofKit
import Derived.LaidMore
import Derived.OpenShut
import Derived.SliceStrings
import Derived.Laws.IdiomMaps
import Derived.HandedShaped
import Derived.Shelf.Vars
set_option linter.unusedVariables false
set_option linter.unusedSimpArgs false
namespace Go.Proofs.YtnjnadlgndjnbaaDoor.Rw
open Go.ChangeShapes Go.WideShapes Go.ChangeAt Go.WideMaps Go.WideElems Go.RowKit Go.Proofs.YtnjnadlgndjnbaaDoor.Lx Go.Proofs.YtnjnadlgndjnbaaDoor.Pk Go.Proofs.YtnjnadlgndjnbaaDoorW.PrintWords
theorem ownNone : ownKnob Tryd.prog.godebug = none := by kernel_rfl
theorem gKeys : Tryd.prog.globalNamed "lamplighter/lex.keys" = some 3 := by kernel_rfl
theorem tKeys : (Tryd.prog.globals[3]?).map (·.type) = some 133 := by kernel_rfl
theorem law : KeyLaw Tryd.prog 9 := string_law Tryd.underlying9
abbrev laidL : List (String × DataW Unit) := [("lamplighter/lex.keys", Rows.laid_lamplighter_lex_keys), ("lamplighter/parse.types", Rows.laid_lamplighter_parse_types), ("lamplighter/parse.levels", Rows.laid_lamplighter_parse_levels), ("lamplighter/parse.signs", Rows.laid_lamplighter_parse_signs)]
theorem gTypes : Tryd.prog.globalNamed "lamplighter/parse.types" = some 2 := by kernel_rfl
theorem tTypes : (Tryd.prog.globals[2]?).map (·.type) = some 71 := by kernel_rfl
theorem gLevels : Tryd.prog.globalNamed "lamplighter/parse.levels" = some 0 := by kernel_rfl
theorem tLevels : (Tryd.prog.globals[0]?).map (·.type) = some 70 := by kernel_rfl
theorem gSigns : Tryd.prog.globalNamed "lamplighter/parse.signs" = some 1 := by kernel_rfl
theorem tSigns : (Tryd.prog.globals[1]?).map (·.type) = some 71 := by kernel_rfl
theorem at_keys (ks : List (List UInt8)) (s : List UInt8) (z : DataW Unit) : (DataW.map (ks.map fun k => (Lit.string k, DataW.agg []))).atKey (.string s) z = if ks.contains s then .agg [] else z := by
  induction ks with
  | nil => rfl
  | cons k ks ih =>
    unfold DataW.atKey at ih ⊢
    simp only [List.map_cons, List.find?_cons, List.contains_cons]
    by_cases hk : s = k
    · subst hk
      have : (Lit.string s).sameKey (Lit.string s) = true := by simp [Lit.sameKey]
      rw [this]; simp
    · have h1 : (Lit.string k).sameKey (Lit.string s) = false := by
        simp only [Lit.sameKey]
        first
        | exact decide_eq_false (fun e => hk e.symm)
        | exact beq_eq_false_iff_ne.2 (fun e => hk e.symm)
      have h2 : (s == k) = false := beq_eq_false_iff_ne.2 hk
      rw [h1, h2, Bool.false_or]
      exact ih
theorem keys_at (s : List UInt8) (z : DataW Unit) : (Rows.laid_lamplighter_lex_keys : DataW Unit).atKey (.string s) z = if keyList.contains s then .agg [] else z := at_keys keyList s z
theorem elem_unit {W : World} {base : Nat} {sp : Nat → Bool} {held : Bool} {n : Nat} {v : Value} {z : DataW Unit × List MemPlace} (h : elemAt (fun _ => ()) Tryd.prog W base sp held n 131 v = some z) : v = .agg #[] := by
  unfold elemAt at h
  split at h
  · rename_i hf
    have he := Tryd.underlying131
    cases v <;> simp [Value.formed, he] at hf
    rename_i cs
    have ce : Tryd.prog.cellsOf 131 = 0 := by kernel_rfl
    rw [ce] at hf
    have : cs = #[] := by simpa using hf
    rw [this]
  · cases h
set_option maxRecDepth 100000 in
theorem keys_of_laid {W : World} {g0 : Nat} {t0 : TypeId} {cs0 : Array Value} {f0 : Nat} {p0 : List MemPlace} (hg0 : Tryd.prog.globalNamed "lamplighter/lex.keys" = some g0) (ht0 : (Tryd.prog.globals[g0]?).map (·.type) = some t0) (hv0 : W.var? Tryd.prog "lamplighter/lex.keys" = some cs0) (hd0 : DataW.trod (fun _ => ()) Tryd.prog W 0 (fun _ => true) false f0 t0 cs0.toList = some (Rows.laid_lamplighter_lex_keys, p0)) : Keys0 W := by
  obtain rfl := Option.some.inj (gKeys.symm.trans hg0)
  obtain rfl := Option.some.inj (tKeys.symm.trans ht0)
  rcases open_map Tryd.underlying133 hd0 with ⟨_, hx⟩ | ⟨bm, es, clock, m, rfl, hcs, hb, _, F, hx⟩
  · exact absurd (congrArg Prod.fst hx) (by unfold Rows.laid_lamplighter_lex_keys; intro h; cases h)
  simp only [Prod.mk.injEq] at hx
  have hcell : W.cell? ⟨3, 0, none⟩ = some (.map (some bm)) := by
    have := World.var?_cell hg0 hv0 0
    rw [Array.eq_one_of_toList hcs] at this
    simpa using this
  have hlt : bm < W.heap.size := (Array.getElem?_eq_some_iff.1 hb).1
  refine ⟨bm, hlt, by omega, hcell, fun w' hw' s hs => ?_⟩
  have hb' : w'.heap[bm]? = some (.map es clock) := hw'.trans hb
  have zero : (zeroValue 131).run Tryd.prog w' = .ok (.agg #[]) w' := by kernel_rfl
  rcases fit_lookup_ok (w := w') law Tryd.underlying133 zero hb' F (keyOf_string_mk (s := s) Tryd.underlying9 (by unfold maxLen; omega)) with ⟨hrun, hat⟩ | ⟨v, y, hrun, hRv, hat, _⟩
  · rw [← hx.1] at hat
    have h1 := hat .nil
    rw [keys_at] at h1
    have hk : isKey s = false := by
      unfold isKey
      cases hc : keyList.contains s.data.toList
      · rfl
      · rw [hc] at h1; cases h1
    rw [hk]; exact hrun
  · rw [← hx.1] at hat
    have h1 := hat .nil
    have h2 := hat (.agg [])
    rw [keys_at] at h1 h2
    obtain rfl := elem_unit hRv
    have hk : isKey s = true := by
      unfold isKey
      cases hc : keyList.contains s.data.toList
      · rw [hc] at h1 h2; rw [← h1] at h2; cases h2
      · rfl
    rw [hk]; exact hrun
theorem at_nums (l : List (List UInt8 × Int)) (s : List UInt8) (z : DataW Unit) : (DataW.map (l.map fun p => (Lit.string p.1, DataW.lit (.int .i64 p.2)))).atKey (.string s) z = match l.find? (fun p => p.1 == s) with | some p => .lit (.int .i64 p.2) | none => z := by
  induction l with
  | nil => rfl
  | cons p l ih =>
    unfold DataW.atKey at ih ⊢
    simp only [List.map_cons, List.find?_cons]
    by_cases hk : p.1 = s
    · have h1 : (Lit.string p.1).sameKey (Lit.string s) = true := by simp [Lit.sameKey, hk]
      have h2 : (p.1 == s) = true := beq_iff_eq.2 hk
      rw [h1, h2]
    · have h1 : (Lit.string p.1).sameKey (Lit.string s) = false := by
        simp only [Lit.sameKey]
        first
        | exact decide_eq_false (fun e => hk e)
        | exact beq_eq_false_iff_ne.2 (fun e => hk e)
      have h2 : (p.1 == s) = false := beq_eq_false_iff_ne.2 hk
      rw [h1, h2]
      exact ih
def typeL : List (List UInt8 × Int) := [([105, 51, 50], 4), ([117, 49, 54], 2), ([117, 51, 50], 3), ([117, 56], 1)]
theorem types_eq : (Rows.laid_lamplighter_parse_types : DataW Unit) = DataW.map (typeL.map fun p => (Lit.string p.1, DataW.lit (.int .i64 p.2))) := rfl
theorem signs_eq : (Rows.laid_lamplighter_parse_signs : DataW Unit) = DataW.map (signL.map fun p => (Lit.string p.1, DataW.lit (.int .i64 p.2))) := rfl
theorem type_find (s : List UInt8) : ((typeL.find? (fun p => p.1 == s)).map (·.2)).getD 0 = Fp.typeOf s := by
  unfold typeL Fp.typeOf
  simp only [List.find?_cons, List.find?_nil]
  by_cases h1 : s = [117, 56]
  · subst h1; rfl
  · by_cases h2 : s = [117, 49, 54]
    · subst h2; rfl
    · by_cases h3 : s = [117, 51, 50]
      · subst h3; rfl
      · by_cases h4 : s = [105, 51, 50]
        · subst h4; rfl
        · rw [if_neg h1, if_neg h2, if_neg h3, if_neg h4, show (([105, 51, 50] : List UInt8) == s) = false from beq_eq_false_iff_ne.2 (Ne.symm h4), show (([117, 49, 54] : List UInt8) == s) = false from beq_eq_false_iff_ne.2 (Ne.symm h2), show (([117, 51, 50] : List UInt8) == s) = false from beq_eq_false_iff_ne.2 (Ne.symm h3), show (([117, 56] : List UInt8) == s) = false from beq_eq_false_iff_ne.2 (Ne.symm h1)]
          rfl
set_option maxRecDepth 100000 in
theorem types_of {W : World} {g0 : Nat} {t0 : TypeId} {cs0 : Array Value} {f0 : Nat} {p0 : List MemPlace} (hg0 : Tryd.prog.globalNamed "lamplighter/parse.types" = some g0) (ht0 : (Tryd.prog.globals[g0]?).map (·.type) = some t0) (hv0 : W.var? Tryd.prog "lamplighter/parse.types" = some cs0) (hd0 : DataW.trod (fun _ => ()) Tryd.prog W 0 (fun _ => true) false f0 t0 cs0.toList = some (Rows.laid_lamplighter_parse_types, p0)) :
    ∃ bm, bm < W.heap.size ∧ 2 < W.heap.size ∧ W.cell? ⟨2, 0, none⟩ = some (.map (some bm)) ∧ ∀ w' : World, w'.heap[bm]? = W.heap[bm]? → ∀ s : ByteArray, s.size ≤ 140737488351232 → (Instr.lookup 71 (.map (some bm)) (.string s) true).run Tryd.prog w' = .ok (.tuple #[.int .i64 (typN s), .bool (typN s != 0)]) w' := by
  obtain rfl := Option.some.inj (gTypes.symm.trans hg0)
  obtain rfl := Option.some.inj (tTypes.symm.trans ht0)
  rcases open_map Tryd.underlying71 hd0 with ⟨_, hx⟩ | ⟨bm, es, clock, m, rfl, hcs, hb, _, F, hx⟩
  · exact absurd (congrArg Prod.fst hx) (by unfold Rows.laid_lamplighter_parse_types; intro h; cases h)
  simp only [Prod.mk.injEq] at hx
  have hcell : W.cell? ⟨2, 0, none⟩ = some (.map (some bm)) := by
    have := World.var?_cell hg0 hv0 0
    rw [Array.eq_one_of_toList hcs] at this
    simpa using this
  have hlt : bm < W.heap.size := (Array.getElem?_eq_some_iff.1 hb).1
  refine ⟨bm, hlt, World.block_lt_of_cell? W _ hcell, hcell, fun w' hw' s hs => ?_⟩
  have hb' : w'.heap[bm]? = some (.map es clock) := hw'.trans hb
  have zero : (zeroValue 3).run Tryd.prog w' = .ok (.int .i64 0) w' := by kernel_rfl
  have hfind := type_find s.data.toList
  rcases fit_lookup_ok (w := w') law Tryd.underlying71 zero hb' F (keyOf_string_mk (s := s) Tryd.underlying9 (by unfold maxLen; omega)) with ⟨hrun, hat⟩ | ⟨v, y, hrun, hRv, hat, _⟩
  · rw [← hx.1, types_eq] at hat
    have h1 := hat .nil
    rw [at_nums] at h1
    cases hc : typeL.find? (fun p => p.1 == s.data.toList) with
    | some p => rw [hc] at h1; cases h1
    | none =>
      rw [hc] at hfind
      have h0 : typN s = 0 := hfind.symm
      rw [h0]; exact hrun
  · rw [← hx.1, types_eq] at hat
    obtain ⟨a, rfl, rfl, _⟩ := WideElems.elemAt_int Tryd.underlying3 hRv
    have h1 := hat .nil
    rw [at_nums] at h1
    cases hc : typeL.find? (fun p => p.1 == s.data.toList) with
    | none => rw [hc] at h1; cases h1
    | some p =>
      rw [hc] at h1 hfind
      simp only [DataW.lit.injEq, Lit.int.injEq, true_and] at h1
      have h0 : typN s = a := by rw [← h1]; exact hfind.symm
      have hne : (typN s != 0) = true := by
        have hm := List.mem_of_find?_eq_some hc
        have : p.2 ≠ 0 := by
          simp only [typeL, List.mem_cons, List.not_mem_nil, or_false] at hm
          rcases hm with rfl | rfl | rfl | rfl <;> decide
        rw [h0, ← h1]; simpa using this
      rw [hne, h0]; exact hrun
set_option maxRecDepth 100000 in
theorem signs_of {W : World} {g0 : Nat} {t0 : TypeId} {cs0 : Array Value} {f0 : Nat} {p0 : List MemPlace} (hg0 : Tryd.prog.globalNamed "lamplighter/parse.signs" = some g0) (ht0 : (Tryd.prog.globals[g0]?).map (·.type) = some t0) (hv0 : W.var? Tryd.prog "lamplighter/parse.signs" = some cs0) (hd0 : DataW.trod (fun _ => ()) Tryd.prog W 0 (fun _ => true) false f0 t0 cs0.toList = some (Rows.laid_lamplighter_parse_signs, p0)) :
    ∃ bm, bm < W.heap.size ∧ 1 < W.heap.size ∧ W.cell? ⟨1, 0, none⟩ = some (.map (some bm)) ∧ ∀ w' : World, w'.heap[bm]? = W.heap[bm]? → ∀ s : ByteArray, s.size ≤ 140737488351232 → (Instr.lookup 71 (.map (some bm)) (.string s) false).run Tryd.prog w' = .ok (.int .i64 (signN s)) w' := by
  obtain rfl := Option.some.inj (gSigns.symm.trans hg0)
  obtain rfl := Option.some.inj (tSigns.symm.trans ht0)
  rcases open_map Tryd.underlying71 hd0 with ⟨_, hx⟩ | ⟨bm, es, clock, m, rfl, hcs, hb, _, F, hx⟩
  · exact absurd (congrArg Prod.fst hx) (by unfold Rows.laid_lamplighter_parse_signs; intro h; cases h)
  simp only [Prod.mk.injEq] at hx
  have hcell : W.cell? ⟨1, 0, none⟩ = some (.map (some bm)) := by
    have := World.var?_cell hg0 hv0 0
    rw [Array.eq_one_of_toList hcs] at this
    simpa using this
  have hlt : bm < W.heap.size := (Array.getElem?_eq_some_iff.1 hb).1
  refine ⟨bm, hlt, World.block_lt_of_cell? W _ hcell, hcell, fun w' hw' s hs => ?_⟩
  have hb' : w'.heap[bm]? = some (.map es clock) := hw'.trans hb
  have zero : (zeroValue 3).run Tryd.prog w' = .ok (.int .i64 0) w' := by kernel_rfl
  rcases fit_lookup (w := w') law Tryd.underlying71 zero hb' F (keyOf_string_mk (s := s) Tryd.underlying9 (by unfold maxLen; omega)) with ⟨hrun, hat⟩ | ⟨v, y, hrun, hRv, hat, _⟩
  · rw [← hx.1, signs_eq] at hat
    have h1 := hat .nil
    rw [at_nums] at h1
    cases hc : signL.find? (fun p => p.1 == s.data.toList) with
    | some p => rw [hc] at h1; cases h1
    | none =>
      have h0 : signN s = 0 := by unfold signN; rw [hc]; rfl
      rw [h0]; exact hrun
  · rw [← hx.1, signs_eq] at hat
    obtain ⟨a, rfl, rfl, _⟩ := WideElems.elemAt_int Tryd.underlying3 hRv
    have h1 := hat .nil
    rw [at_nums] at h1
    cases hc : signL.find? (fun p => p.1 == s.data.toList) with
    | none => rw [hc] at h1; cases h1
    | some p =>
      rw [hc] at h1
      simp only [DataW.lit.injEq, Lit.int.injEq, true_and] at h1
      have h0 : signN s = a := by unfold signN; rw [hc, ← h1]; rfl
      rw [h0]; exact hrun
theorem strs_inj : ∀ {a b : List ByteArray}, (strs a : List (DataW Unit)) = strs b → a = b
  | [], [], _ => rfl
  | [], _ :: _, h => by cases h
  | _ :: _, [], h => by cases h
  | x :: a, y :: b, h => by
    unfold strs at h
    simp only [List.map_cons, List.cons.injEq, DataW.lit.injEq, Lit.string.injEq] at h
    have h1 : x = y := by
      have := congrArg List.toArray h.1
      cases x; cases y; simpa using this
    rw [h1, strs_inj (show (strs a : List (DataW Unit)) = strs b from h.2)]
def levD (n : Nat) : DataW Unit := if n = 0 then .nil else .slice (strs (levT n)) []
theorem levels_eq : (Rows.laid_lamplighter_parse_levels : DataW Unit) = .agg ((List.range 9).map levD) := by rfl
set_option maxRecDepth 100000 in
theorem levels_of {W : World} {g0 : Nat} {t0 : TypeId} {cs0 : Array Value} {f0 : Nat} {p0 : List MemPlace} (hg0 : Tryd.prog.globalNamed "lamplighter/parse.levels" = some g0) (ht0 : (Tryd.prog.globals[g0]?).map (·.type) = some t0) (hv0 : W.var? Tryd.prog "lamplighter/parse.levels" = some cs0) (hd0 : DataW.trod (fun _ => ()) Tryd.prog W 0 (fun _ => true) false f0 t0 cs0.toList = some (Rows.laid_lamplighter_parse_levels, p0)) :
    0 < W.heap.size ∧ ∀ n, n ≤ 8 → ∃ A c, W.cell? ⟨0, n, none⟩ = some (.slice A (levT n).length c) ∧ (levT n).length ≤ c ∧ Kd.C Kd.string W A (levT n).length (levT n) := by
  obtain rfl := Option.some.inj (gLevels.symm.trans hg0)
  obtain rfl := Option.some.inj (tLevels.symm.trans ht0)
  obtain ⟨xs, m, rfl, hx, hlen, hxl, hel⟩ := DataW.trod_array Tryd.underlying70 hd0
  have ce : Tryd.prog.cellsOf 36 = 1 := by kernel_rfl
  have ca : Tryd.prog.cellsOf 70 = 9 := by kernel_rfl
  rw [ca] at hlen
  rw [levels_eq] at hx
  simp only [Prod.mk.injEq, DataW.agg.injEq] at hx
  have key : ∀ n, n ≤ 8 → ∃ A c, W.cell? ⟨0, n, none⟩ = some (.slice A (levT n).length c) ∧ (levT n).length ≤ c ∧ Kd.C Kd.string W A (levT n).length (levT n) := by
    intro n hn
    have h1 := hel n (by omega)
    rw [ce, Nat.mul_one] at h1
    have hv : cs0.toList[n]? = some (cs0.toList[n]'(by omega)) := List.getElem?_eq_getElem (by omega)
    have ht : (cs0.toList.drop n).take 1 = [cs0.toList[n]'(by omega)] := by
      rw [List.drop_eq_getElem_cons (by omega)]; rfl
    rw [ht, List.getElem?_eq_getElem (by omega)] at h1
    have hcell : W.cell? ⟨0, n, none⟩ = some (cs0.toList[n]'(by omega)) := by
      rw [World.var?_cell hg0 hv0 n, ← hv, Array.getElem?_toList]
    have hd : (xs[n]'(by omega)).1 = levD n := by
      have := congrArg (fun l => l[n]?) hx.1
      simp only [List.getElem?_map] at this
      rw [List.getElem?_range (by omega), List.getElem?_eq_getElem (by omega)] at this
      simp only [Option.map_some, Option.some.injEq] at this
      exact this.symm
    rcases open_strings Tryd.underlying36 Tryd.underlying9 (by kernel_rfl) h1 with ⟨hcs, hz⟩ | ⟨a, len, cap, ss, hcs, _, hl, hm, hsl, hz, hc, hsz⟩
    · rw [hz] at hd
      have hn0 : n = 0 := by
        by_cases h0 : n = 0
        · exact h0
        · unfold levD at hd; rw [if_neg h0] at hd; cases hd
      subst hn0
      simp only [List.cons.injEq, and_true] at hcs
      rw [hcs] at hcell
      exact ⟨none, 0, hcell, Nat.le_refl _, rfl, by decide, fun h => absurd h (by decide)⟩
    · rw [hz] at hd
      have h0 : ¬ n = 0 := by
        rintro rfl
        unfold levD at hd; rw [if_pos rfl] at hd; cases hd
      unfold levD at hd
      rw [if_neg h0] at hd
      simp only [DataW.slice.injEq] at hd
      have he := strs_inj hd.1
      simp only [if_true] at hsl
      have hdr : ss.drop len = [] := strs_inj (b := []) hd.2
      have hcl : cap ≤ len := by
        have := congrArg List.length hdr
        simp only [List.length_drop, List.length_nil] at this
        omega
      have hlc : len = cap := by omega
      subst hlc
      have hss : ss = levT n := by rw [← he, List.take_of_length_le (by omega)]
      subst hss
      simp only [List.cons.injEq, and_true] at hcs
      rw [hcs] at hcell
      have hmx : maxLen ≤ 9223372036854775807 := by decide
      refine ⟨some a, len, by rw [hsl]; exact hcell, by omega, rfl, by omega, fun _ => ⟨a, rfl, fun j p hj => ?_⟩⟩
      have hjl := (List.getElem?_eq_some_iff.1 hj).1
      refine ⟨[.string p], rfl, rfl, fun i u hi => ?_⟩
      have hi1 : i = 0 := by have := (List.getElem?_eq_some_iff.1 hi).1; simpa using this
      subst hi1
      have := hc j hjl
      rw [List.getD_eq_getElem?_getD, hj] at this
      obtain rfl : Value.string p = u := by simpa using hi
      simpa [show (Kd.string : Kd ByteArray).sz = 1 from rfl] using this
  obtain ⟨A, c, hc0, _⟩ := key 0 (by omega)
  exact ⟨World.block_lt_of_cell? W _ hc0, key⟩
theorem pw_of {W : World} (h : laidMetH Tryd.prog laidL W) (hsh : W.ShapedOpen Tryd.prog) : PW W := by
  rw [MakeChecks.laidMetH_plain _ _ _ (by kernel_rfl)] at h
  obtain ⟨ps, ⟨g0, t0, cs0, f0, p0, q0, hg0, ht0, hv0, hd0, ⟨g1, t1, cs1, f1, p1, q1, hg1, ht1, hv1, hd1, ⟨g2, t2, cs2, f2, p2, q2, hg2, ht2, hv2, hd2, ⟨g3, t3, cs3, f3, p3, q3, hg3, ht3, hv3, hd3, _, _⟩, _⟩, _⟩, _⟩, _, _⟩ := h
  refine ⟨⟨keys_of_laid hg0 ht0 hv0 hd0, ?_⟩, types_of hg1 ht1 hv1 hd1, signs_of hg3 ht3 hv3 hd3, levels_of hg2 ht2 hv2 hd2⟩
  exact cell_of_shapedOpen_int (P := Tryd.prog) (g := 4) (t := 3) (zero := #[.int .i64 0]) hsh (of_decide_eq_true (by kernel_rfl)) (by kernel_rfl) rfl (by kernel_rfl) (by kernel_rfl) Tryd.underlying3
theorem door_met (os : Os) (args : Array Value) : laidMetH Tryd.prog laidL ((World.doorLaid Tryd.prog 4000 os).forCall (fun _ _ => 0) ⟨#[], args, []⟩).memory :=
  laidMetH_of_parts3 (fuel := 8) (laidMet_of_run' 8 (by kernel_rfl) (by kernel_rfl)) (by kernel_rfl) (by kernel_rfl)
section
variable {H : Type} {enc : TypeId × Value → H}
theorem returns_both {a : Assume} {C : Checked} {os : Os} {f : FuncId} {fn : Func} {s : ChangeSpec} {conds : List PathCond} {apart fresh handsOn again : Bool} {X : World → Array Value → Prop}
    (hX : ∀ (w w' : World) (args : Array Value), w.heap = w'.heap → X w args → X w' args)
    (own : ownKnob C.prog.godebug = none) (started : os.Started) (noInit : C.prog.inits.idxOf? f = none) (hfn : C.prog.funcs[f]? = some fn)
    (witness : ∃ (w : World) (tape : Tape) (i : Input), w.os = os ∧ (w.forCall tape i).Shaped C.prog ∧ i.vars = [] ∧ Input.okWide C.prog (w.forCall tape i) .any w.heap.size f i ∧
      ((s.pre enc C.prog fn conds apart (w.forCall tape i).memory i.args ∧ X (w.forCall tape i).memory i.args) ∧ sizedMet enc C.prog fn (OpenSpec.ofChange s) apart (w.forCall tape i).memory i.args) ∧ a.holds C.prog (lone (Frame.enter C.prog f i.args .normal) [] (w.forCall tape i)))
    (contract : ∀ (W : World) (base : Nat) (args : Array Value) (ds gs : List (DataW H)) (before : List MemPlace),
      (∀ (j : Nat) t v, fn.params[j]? = some t → args[j]? = some v → Value.okWide C.prog W .any base t v) →
      DataW.Whole enc C.prog fn.params.toList s.vars apart W args.toList ds gs before →
      (DataW.weightsEach C.prog (fn.params.toList ++ s.plain.varTypes C.prog) (ds ++ gs)).all (· ≤ reachBytes) = true → X W args → W.ShapedOpen C.prog →
      Calls C.prog f args W fun e W' => ∃ v, e = .returned v ∧ s.post enc C.prog fn apart fresh handsOn again W args v W') :
    ReturnsInHanded a C os f .any (fun w args => (s.pre enc C.prog fn conds apart w args ∧ X w args) ∧ sizedMet enc C.prog fn (OpenSpec.ofChange s) apart w args) (s.post enc C.prog fn apart fresh handsOn again) := by
  refine returnsInHanded_of_calls own started noInit witness ?_
  intro w tape i _ hsh _ hok hpre _
  obtain ⟨_, _, _, fn', hfn', _, _, _, _, hval⟩ := hok
  obtain rfl : fn' = fn := Option.some.inj (hfn'.symm.trans hfn)
  obtain ⟨⟨⟨ds, gs, before, hw, _⟩, hx⟩, hz⟩ := hpre
  have hw' := DataW.Whole.of_heap (w' := w.forCall tape i) (by rfl) hw
  refine (contract (w.forCall tape i) w.heap.size i.args ds gs before hval hw' (hz.weights hw) (hX _ _ _ (by rfl) hx) hsh).mono fun e W' ⟨v, he, hp⟩ => ?_
  subst he
  exact ChangeSpec.post_blind hp
end
end Go.Proofs.YtnjnadlgndjnbaaDoor.Rw
