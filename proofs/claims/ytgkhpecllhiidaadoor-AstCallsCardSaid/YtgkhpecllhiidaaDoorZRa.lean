/- What the rows give the walks: the map of keywords, the library's variable, and the wrap that hands on both. -/
import Derived.Test.YtgkhpecllhiidaaDoorZHa
import Derived.Test.YtgkhpecllhiidaaDoorRows
import Derived.ProofKit
import Derived.LaidMore
import Derived.OpenShut
import Derived.Laws.IdiomMaps
import Derived.HandedShaped
import Derived.Shelf.Vars
set_option linter.unusedVariables false
set_option linter.unusedSimpArgs false
namespace Go.Proofs.YtgkhpecllhiidaaDoor.Rw
open Go.ChangeShapes Go.WideShapes Go.ChangeAt Go.WideMaps Go.WideElems Go.RowKit Go.Proofs.YtgkhpecllhiidaaDoor.Lx
theorem ownNone : ownKnob Tryd.prog.godebug = none := by kernel_rfl
theorem gKeys : Tryd.prog.globalNamed "lamplighter/lex.keys" = some 0 := by kernel_rfl
theorem tKeys : (Tryd.prog.globals[0]?).map (·.type) = some 127 := by kernel_rfl
theorem law : KeyLaw Tryd.prog 9 := string_law Tryd.underlying9
abbrev laidL : List (String × DataW Unit) := [("lamplighter/lex.keys", Rows.laid_lamplighter_lex_keys)]
theorem at_keys (ks : List (List UInt8)) (s : List UInt8) (z : DataW Unit) : (DataW.map (ks.map fun k => (Lit.string k, DataW.agg []))).atKey (.string s) z = if ks.contains s then .agg [] else z := by
  induction ks with
  | nil => rfl
  | cons k ks ih =>
    unfold DataW.atKey at ih ⊢
    simp only [List.map_cons, List.find?_cons, List.contains_cons]
    by_cases hk : s = k
    · subst hk
      have : (Lit.string s).sameKey (Lit.string s) = true := by simp [Lit.sameKey]
      rw [this]; simp
    · have h1 : (Lit.string k).sameKey (Lit.string s) = false := by
        simp only [Lit.sameKey]
        first
        | exact decide_eq_false (fun e => hk e.symm)
        | exact beq_eq_false_iff_ne.2 (fun e => hk e.symm)
      have h2 : (s == k) = false := beq_eq_false_iff_ne.2 hk
      rw [h1, h2, Bool.false_or]
      exact ih
theorem keys_at (s : List UInt8) (z : DataW Unit) : (Rows.laid_lamplighter_lex_keys : DataW Unit).atKey (.string s) z = if keyList.contains s then .agg [] else z := at_keys keyList s z
theorem elem_unit {W : World} {base : Nat} {sp : Nat → Bool} {held : Bool} {n : Nat} {v : Value} {z : DataW Unit × List MemPlace} (h : elemAt (fun _ => ()) Tryd.prog W base sp held n 125 v = some z) : v = .agg #[] := by
  unfold elemAt at h
  split at h
  · rename_i hf
    have he := Tryd.underlying125
    cases v <;> simp [Value.formed, he] at hf
    rename_i cs
    have ce : Tryd.prog.cellsOf 125 = 0 := by kernel_rfl
    rw [ce] at hf
    have : cs = #[] := by simpa using hf
    rw [this]
  · cases h
set_option maxRecDepth 100000 in
theorem keys_of_laid {W : World} (h : laidMetH Tryd.prog laidL W) : Keys0 W := by
  rw [MakeChecks.laidMetH_plain _ _ _ (by kernel_rfl)] at h
  obtain ⟨ps, ⟨g0, t0, cs0, f0, p0, q0, hg0, ht0, hv0, hd0, _, _⟩, _, _⟩ := h
  obtain rfl := Option.some.inj (gKeys.symm.trans hg0)
  obtain rfl := Option.some.inj (tKeys.symm.trans ht0)
  rcases open_map Tryd.underlying127 hd0 with ⟨_, hx⟩ | ⟨bm, es, clock, m, rfl, hcs, hb, _, F, hx⟩
  · exact absurd (congrArg Prod.fst hx) (by unfold Rows.laid_lamplighter_lex_keys; intro h; cases h)
  simp only [Prod.mk.injEq] at hx
  have hcell : W.cell? ⟨0, 0, none⟩ = some (.map (some bm)) := by
    have := World.var?_cell hg0 hv0 0
    rw [Array.eq_one_of_toList hcs] at this
    simpa using this
  have hlt : bm < W.heap.size := (Array.getElem?_eq_some_iff.1 hb).1
  refine ⟨bm, hlt, by omega, hcell, fun w' hw' s hs => ?_⟩
  have hb' : w'.heap[bm]? = some (.map es clock) := hw'.trans hb
  have zero : (zeroValue 125).run Tryd.prog w' = .ok (.agg #[]) w' := by kernel_rfl
  rcases fit_lookup_ok (w := w') law Tryd.underlying127 zero hb' F (keyOf_string_mk (s := s) Tryd.underlying9 (by unfold maxLen; omega)) with ⟨hrun, hat⟩ | ⟨v, y, hrun, hRv, hat, _⟩
  · rw [← hx.1] at hat
    have h1 := hat .nil
    rw [keys_at] at h1
    have hk : isKey s = false := by
      unfold isKey
      cases hc : keyList.contains s.data.toList
      · rfl
      · rw [hc] at h1; cases h1
    rw [hk]; exact hrun
  · rw [← hx.1] at hat
    have h1 := hat .nil
    have h2 := hat (.agg [])
    rw [keys_at] at h1 h2
    obtain rfl := elem_unit hRv
    have hk : isKey s = true := by
      unfold isKey
      cases hc : keyList.contains s.data.toList
      · rw [hc] at h1 h2; rw [← h1] at h2; cases h2
      · rfl
    rw [hk]; exact hrun
theorem keys_of {W : World} (h : laidMetH Tryd.prog laidL W) (hsh : W.ShapedOpen Tryd.prog) : Keys W := by
  refine ⟨keys_of_laid h, ?_⟩
  exact cell_of_shapedOpen_int (P := Tryd.prog) (g := 1) (t := 3) (zero := #[.int .i64 0]) hsh (of_decide_eq_true (by kernel_rfl)) (by kernel_rfl) rfl (by kernel_rfl) (by kernel_rfl) Tryd.underlying3
theorem door_met (os : Os) (args : Array Value) : laidMetH Tryd.prog laidL ((World.doorLaid Tryd.prog 4000 os).forCall (fun _ _ => 0) ⟨#[], args, []⟩).memory :=
  laidMetH_of_parts3 (fuel := 8) (laidMet_of_run' 8 (by kernel_rfl) (by kernel_rfl)) (by kernel_rfl) (by kernel_rfl)
section
variable {H : Type} {enc : TypeId × Value → H}
theorem returns_both {a : Assume} {C : Checked} {os : Os} {f : FuncId} {fn : Func} {s : ChangeSpec} {conds : List PathCond} {apart fresh handsOn again : Bool} {X : World → Array Value → Prop}
    (hX : ∀ (w w' : World) (args : Array Value), w.heap = w'.heap → X w args → X w' args)
    (own : ownKnob C.prog.godebug = none) (started : os.Started) (noInit : C.prog.inits.idxOf? f = none) (hfn : C.prog.funcs[f]? = some fn)
    (witness : ∃ (w : World) (tape : Tape) (i : Input), w.os = os ∧ (w.forCall tape i).Shaped C.prog ∧ i.vars = [] ∧ Input.okWide C.prog (w.forCall tape i) .any w.heap.size f i ∧
      ((s.pre enc C.prog fn conds apart (w.forCall tape i).memory i.args ∧ X (w.forCall tape i).memory i.args) ∧ sizedMet enc C.prog fn (OpenSpec.ofChange s) apart (w.forCall tape i).memory i.args) ∧ a.holds C.prog (lone (Frame.enter C.prog f i.args .normal) [] (w.forCall tape i)))
    (contract : ∀ (W : World) (base : Nat) (args : Array Value) (ds gs : List (DataW H)) (before : List MemPlace),
      (∀ (j : Nat) t v, fn.params[j]? = some t → args[j]? = some v → Value.okWide C.prog W .any base t v) →
      DataW.Whole enc C.prog fn.params.toList s.vars apart W args.toList ds gs before →
      (DataW.weightsEach C.prog (fn.params.toList ++ s.plain.varTypes C.prog) (ds ++ gs)).all (· ≤ reachBytes) = true → X W args → W.ShapedOpen C.prog →
      Calls C.prog f args W fun e W' => ∃ v, e = .returned v ∧ s.post enc C.prog fn apart fresh handsOn again W args v W') :
    ReturnsInHanded a C os f .any (fun w args => (s.pre enc C.prog fn conds apart w args ∧ X w args) ∧ sizedMet enc C.prog fn (OpenSpec.ofChange s) apart w args) (s.post enc C.prog fn apart fresh handsOn again) := by
  refine returnsInHanded_of_calls own started noInit witness ?_
  intro w tape i _ hsh _ hok hpre _
  obtain ⟨_, _, _, fn', hfn', _, _, _, _, hval⟩ := hok
  obtain rfl : fn' = fn := Option.some.inj (hfn'.symm.trans hfn)
  obtain ⟨⟨⟨ds, gs, before, hw, _⟩, hx⟩, hz⟩ := hpre
  have hw' := DataW.Whole.of_heap (w' := w.forCall tape i) (by rfl) hw
  refine (contract (w.forCall tape i) w.heap.size i.args ds gs before hval hw' (hz.weights hw) (hX _ _ _ (by rfl) hx) hsh).mono fun e W' ⟨v, he, hp⟩ => ?_
  subst he
  exact ChangeSpec.post_blind hp
end
end Go.Proofs.YtgkhpecllhiidaaDoor.Rw
